/- The lists' elements, as arguments bring them. Printed by rowgen.py. -/
import Derived.Test.YtfjbhmpnmpphoaaE
import Derived.Test.YtfjbhmpnmpphoaaOpen2
namespace Go.Proofs.Ytfjbhmpnmpphoaa
open Go.Saw Go.RowKit
def wf32 (x : E32) : Prop := x.1.size ≤ maxLen ∧ (Lit.int .i64 x.2.1).wf = true ∧ (Lit.int .i64 x.2.2.1).wf = true ∧ (Lit.int .i64 x.2.2.2.1).wf = true ∧ (Lit.int .i64 x.2.2.2.2.1).wf = true ∧ (Lit.int .i64 x.2.2.2.2.2.1).wf = true ∧ (Lit.int .i64 x.2.2.2.2.2.2.1).wf = true ∧ (Lit.int .i64 x.2.2.2.2.2.2.2.1).wf = true ∧ (Lit.int .i64 x.2.2.2.2.2.2.2.2.1).wf = true ∧ (Lit.int .i64 x.2.2.2.2.2.2.2.2.2.1).wf = true ∧ (Lit.int .i64 x.2.2.2.2.2.2.2.2.2.2.1).wf = true ∧ (Lit.int .i64 x.2.2.2.2.2.2.2.2.2.2.2.1).wf = true ∧ (Lit.int .i64 x.2.2.2.2.2.2.2.2.2.2.2.2).wf = true
theorem row32 {H : Type} {enc : TypeId × Value → H} {w : World} {base : Nat} {spare : Nat → Bool} {held : Bool} {A : Option Addr} {n c : Nat} (hs : Sl enc Try.prog w base spare held 32 A n c) (sp : ∀ a, A = some a → a.spot = none) : ∃ l : List E32, n = l.length ∧ (∀ x ∈ l, wf32 x) ∧ KRow (Cx.start w) enc32 13 l A := by
  refine row_of (by kernel_rfl) ok32 (fun fuel cs x hx => ?_) hs sp
  have hl0 := leafs_spec 9 32 [.s, .i .i64, .i .i64, .i .i64, .i .i64, .i .i64, .i .i64, .i .i64, .i .i64, .i .i64, .i .i64, .i .i64, .i .i64] fuel _ _ (by kernel_rfl) hx
  obtain ⟨v0, m0, rfl, w0, hl1⟩ := leaf_s hl0
  obtain ⟨v1, m1, rfl, w1, hl2⟩ := leaf_i hl1
  obtain ⟨v2, m2, rfl, w2, hl3⟩ := leaf_i hl2
  obtain ⟨v3, m3, rfl, w3, hl4⟩ := leaf_i hl3
  obtain ⟨v4, m4, rfl, w4, hl5⟩ := leaf_i hl4
  obtain ⟨v5, m5, rfl, w5, hl6⟩ := leaf_i hl5
  obtain ⟨v6, m6, rfl, w6, hl7⟩ := leaf_i hl6
  obtain ⟨v7, m7, rfl, w7, hl8⟩ := leaf_i hl7
  obtain ⟨v8, m8, rfl, w8, hl9⟩ := leaf_i hl8
  obtain ⟨v9, m9, rfl, w9, hl10⟩ := leaf_i hl9
  obtain ⟨v10, m10, rfl, w10, hl11⟩ := leaf_i hl10
  obtain ⟨v11, m11, rfl, w11, hl12⟩ := leaf_i hl11
  obtain ⟨v12, m12, rfl, w12, hl13⟩ := leaf_i hl12
  obtain rfl := hl13.none
  exact ⟨(v0, v1, v2, v3, v4, v5, v6, v7, v8, v9, v10, v11, v12), rfl, ⟨w0, w1, w2, w3, w4, w5, w6, w7, w8, w9, w10, w11, w12⟩⟩
def wf41 (x : E41) : Prop := (Lit.int .i64 x.1).wf = true ∧ (Lit.int .i64 x.2.1).wf = true ∧ (Lit.int .i64 x.2.2.1).wf = true ∧ (Lit.int .i64 x.2.2.2.1).wf = true ∧ (Lit.int .i64 x.2.2.2.2.1).wf = true ∧ (Lit.int .i64 x.2.2.2.2.2.1).wf = true ∧ (Lit.int .i64 x.2.2.2.2.2.2).wf = true
theorem row41 {H : Type} {enc : TypeId × Value → H} {w : World} {base : Nat} {spare : Nat → Bool} {held : Bool} {A : Option Addr} {n c : Nat} (hs : Sl enc Try.prog w base spare held 41 A n c) (sp : ∀ a, A = some a → a.spot = none) : ∃ l : List E41, n = l.length ∧ (∀ x ∈ l, wf41 x) ∧ KRow (Cx.start w) enc41 7 l A := by
  refine row_of (by kernel_rfl) ok41 (fun fuel cs x hx => ?_) hs sp
  have hl0 := leafs_spec 9 41 [.i .i64, .i .i64, .i .i64, .i .i64, .i .i64, .i .i64, .i .i64] fuel _ _ (by kernel_rfl) hx
  obtain ⟨v0, m0, rfl, w0, hl1⟩ := leaf_i hl0
  obtain ⟨v1, m1, rfl, w1, hl2⟩ := leaf_i hl1
  obtain ⟨v2, m2, rfl, w2, hl3⟩ := leaf_i hl2
  obtain ⟨v3, m3, rfl, w3, hl4⟩ := leaf_i hl3
  obtain ⟨v4, m4, rfl, w4, hl5⟩ := leaf_i hl4
  obtain ⟨v5, m5, rfl, w5, hl6⟩ := leaf_i hl5
  obtain ⟨v6, m6, rfl, w6, hl7⟩ := leaf_i hl6
  obtain rfl := hl7.none
  exact ⟨(v0, v1, v2, v3, v4, v5, v6), rfl, ⟨w0, w1, w2, w3, w4, w5, w6⟩⟩
end Go.Proofs.Ytfjbhmpnmpphoaa

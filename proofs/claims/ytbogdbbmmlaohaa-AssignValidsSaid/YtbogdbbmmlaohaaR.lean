/- The lists' elements, as arguments bring them. Printed by rowgen.py. -/
import Derived.Test.YtbogdbbmmlaohaaE
import Derived.Test.YtbogdbbmmlaohaaOpen3
namespace Go.Proofs.Ytbogdbbmmlaohaa
open Go.Saw Go.RowKit
set_option linter.unusedVariables false
def wf3 (x : E3) : Prop := (Lit.int .i64 x).wf = true
theorem row3 {H : Type} {enc : TypeId × Value → H} {w : World} {base : Nat} {spare : Nat → Bool} {held : Bool} {A : Option Addr} {n c : Nat} (hs : Sl enc Try.prog w base spare held 3 A n c) (sp : ∀ a, A = some a → a.spot = none) : ∃ l : List E3, n = l.length ∧ (∀ x ∈ l, wf3 x) ∧ KRow (Cx.start w) enc3 1 l A := by
  refine row_of (by kernel_rfl) ok3 (fun fuel cs x hx => ?_) hs sp
  have hl0 := leafs_spec 9 3 [.i .i64] fuel _ _ (by kernel_rfl) hx
  obtain ⟨v0, m0, rfl, w0, hl1⟩ := leaf_i hl0
  obtain rfl := hl1.none
  exact ⟨v0, rfl, w0⟩
def wf4 (x : E4) : Prop := True
theorem row4 {H : Type} {enc : TypeId × Value → H} {w : World} {base : Nat} {spare : Nat → Bool} {held : Bool} {A : Option Addr} {n c : Nat} (hs : Sl enc Try.prog w base spare held 4 A n c) (sp : ∀ a, A = some a → a.spot = none) : ∃ l : List E4, n = l.length ∧ (∀ x ∈ l, wf4 x) ∧ KRow (Cx.start w) enc4 1 l A := by
  refine row_of (by kernel_rfl) ok4 (fun fuel cs x hx => ?_) hs sp
  have hl0 := leafs_spec 9 4 [.b] fuel _ _ (by kernel_rfl) hx
  obtain ⟨v0, m0, rfl, hl1⟩ := leaf_b hl0
  obtain rfl := hl1.none
  exact ⟨v0, rfl, trivial⟩
def wf27 (x : E27) : Prop := x.1.size ≤ maxLen ∧ x.2.1.size ≤ maxLen ∧ (Lit.int .i64 x.2.2.1).wf = true ∧ (Lit.int .i64 x.2.2.2.1).wf = true ∧ (Lit.int .i64 x.2.2.2.2.1).wf = true ∧ (Lit.int .i64 x.2.2.2.2.2.1).wf = true ∧ (Lit.int .i64 x.2.2.2.2.2.2.1).wf = true ∧ (Lit.int .i64 x.2.2.2.2.2.2.2.1).wf = true ∧ (Lit.int .i64 x.2.2.2.2.2.2.2.2.1).wf = true ∧ (Lit.int .i64 x.2.2.2.2.2.2.2.2.2.1).wf = true ∧ (Lit.int .i64 x.2.2.2.2.2.2.2.2.2.2).wf = true
theorem row27 {H : Type} {enc : TypeId × Value → H} {w : World} {base : Nat} {spare : Nat → Bool} {held : Bool} {A : Option Addr} {n c : Nat} (hs : Sl enc Try.prog w base spare held 27 A n c) (sp : ∀ a, A = some a → a.spot = none) : ∃ l : List E27, n = l.length ∧ (∀ x ∈ l, wf27 x) ∧ KRow (Cx.start w) enc27 11 l A := by
  refine row_of (by kernel_rfl) ok27 (fun fuel cs x hx => ?_) hs sp
  have hl0 := leafs_spec 9 27 [.s, .s, .i .i64, .i .i64, .i .i64, .i .i64, .i .i64, .i .i64, .i .i64, .i .i64, .i .i64] fuel _ _ (by kernel_rfl) hx
  obtain ⟨v0, m0, rfl, w0, hl1⟩ := leaf_s hl0
  obtain ⟨v1, m1, rfl, w1, hl2⟩ := leaf_s hl1
  obtain ⟨v2, m2, rfl, w2, hl3⟩ := leaf_i hl2
  obtain ⟨v3, m3, rfl, w3, hl4⟩ := leaf_i hl3
  obtain ⟨v4, m4, rfl, w4, hl5⟩ := leaf_i hl4
  obtain ⟨v5, m5, rfl, w5, hl6⟩ := leaf_i hl5
  obtain ⟨v6, m6, rfl, w6, hl7⟩ := leaf_i hl6
  obtain ⟨v7, m7, rfl, w7, hl8⟩ := leaf_i hl7
  obtain ⟨v8, m8, rfl, w8, hl9⟩ := leaf_i hl8
  obtain ⟨v9, m9, rfl, w9, hl10⟩ := leaf_i hl9
  obtain ⟨v10, m10, rfl, w10, hl11⟩ := leaf_i hl10
  obtain rfl := hl11.none
  exact ⟨(v0, v1, v2, v3, v4, v5, v6, v7, v8, v9, v10), rfl, ⟨w0, w1, w2, w3, w4, w5, w6, w7, w8, w9, w10⟩⟩
def wf37 (x : E37) : Prop := x.1.size ≤ maxLen ∧ x.2.1.size ≤ maxLen ∧ x.2.2.1.size ≤ maxLen ∧ (Lit.int .i64 x.2.2.2.1).wf = true ∧ (Lit.int .i64 x.2.2.2.2.1).wf = true ∧ (Lit.int .i64 x.2.2.2.2.2.1).wf = true ∧ (Lit.int .i64 x.2.2.2.2.2.2.1).wf = true ∧ (Lit.int .i64 x.2.2.2.2.2.2.2.1).wf = true ∧ (Lit.int .i64 x.2.2.2.2.2.2.2.2.1).wf = true ∧ (Lit.int .i64 x.2.2.2.2.2.2.2.2.2.1).wf = true ∧ (Lit.int .i64 x.2.2.2.2.2.2.2.2.2.2.1).wf = true ∧ True ∧ (Lit.int .i64 x.2.2.2.2.2.2.2.2.2.2.2.2.1).wf = true ∧ (Lit.int .i64 x.2.2.2.2.2.2.2.2.2.2.2.2.2.1).wf = true ∧ (Lit.int .i64 x.2.2.2.2.2.2.2.2.2.2.2.2.2.2.1).wf = true ∧ (Lit.int .i64 x.2.2.2.2.2.2.2.2.2.2.2.2.2.2.2.1).wf = true ∧ True ∧ (Lit.int .i64 x.2.2.2.2.2.2.2.2.2.2.2.2.2.2.2.2.2).wf = true
theorem row37 {H : Type} {enc : TypeId × Value → H} {w : World} {base : Nat} {spare : Nat → Bool} {held : Bool} {A : Option Addr} {n c : Nat} (hs : Sl enc Try.prog w base spare held 37 A n c) (sp : ∀ a, A = some a → a.spot = none) : ∃ l : List E37, n = l.length ∧ (∀ x ∈ l, wf37 x) ∧ KRow (Cx.start w) enc37 18 l A := by
  refine row_of (by kernel_rfl) ok37 (fun fuel cs x hx => ?_) hs sp
  have hl0 := leafs_spec 9 37 [.s, .s, .s, .i .i64, .i .i64, .i .i64, .i .i64, .i .i64, .i .i64, .i .i64, .i .i64, .sl 101, .i .i64, .i .i64, .i .i64, .i .i64, .b, .i .i64] fuel _ _ (by kernel_rfl) hx
  obtain ⟨v0, m0, rfl, w0, hl1⟩ := leaf_s hl0
  obtain ⟨v1, m1, rfl, w1, hl2⟩ := leaf_s hl1
  obtain ⟨v2, m2, rfl, w2, hl3⟩ := leaf_s hl2
  obtain ⟨v3, m3, rfl, w3, hl4⟩ := leaf_i hl3
  obtain ⟨v4, m4, rfl, w4, hl5⟩ := leaf_i hl4
  obtain ⟨v5, m5, rfl, w5, hl6⟩ := leaf_i hl5
  obtain ⟨v6, m6, rfl, w6, hl7⟩ := leaf_i hl6
  obtain ⟨v7, m7, rfl, w7, hl8⟩ := leaf_i hl7
  obtain ⟨v8, m8, rfl, w8, hl9⟩ := leaf_i hl8
  obtain ⟨v9, m9, rfl, w9, hl10⟩ := leaf_i hl9
  obtain ⟨v10, m10, rfl, w10, hl11⟩ := leaf_i hl10
  obtain ⟨u11, i11, q11, m11, rfl, w11, hl12⟩ := leaf_sl hl11
  obtain ⟨v12, m12, rfl, w12, hl13⟩ := leaf_i hl12
  obtain ⟨v13, m13, rfl, w13, hl14⟩ := leaf_i hl13
  obtain ⟨v14, m14, rfl, w14, hl15⟩ := leaf_i hl14
  obtain ⟨v15, m15, rfl, w15, hl16⟩ := leaf_i hl15
  obtain ⟨v16, m16, rfl, hl17⟩ := leaf_b hl16
  obtain ⟨v17, m17, rfl, w17, hl18⟩ := leaf_i hl17
  obtain rfl := hl18.none
  exact ⟨(v0, v1, v2, v3, v4, v5, v6, v7, v8, v9, v10, (u11, i11, q11), v12, v13, v14, v15, v16, v17), rfl, ⟨w0, w1, w2, w3, w4, w5, w6, w7, w8, w9, w10, trivial, w12, w13, w14, w15, trivial, w17⟩⟩
theorem row2_4 {H : Type} {enc : TypeId × Value → H} {w : World} {base : Nat} {spare : Nat → Bool} {held : Bool} {A : Option Addr} {n c : Nat} (hs : Sl enc Try.prog w base spare held 48 A n c) : ∃ l : List (List E4), n = l.length ∧ KRow2 (Cx.start w) enc4 1 l A := by
  refine row_of2 (good := fun _ => True) (i := 4) (by kernel_rfl) (by kernel_rfl) ok4 (fun fuel cs x hx => ?_) (fun fuel cs x hx => ?_) hs
  · have hl0 := leafs_spec 9 4 [.b] fuel _ _ (by kernel_rfl) hx
    obtain ⟨v0, m0, rfl, hl1⟩ := leaf_b hl0
    obtain rfl := hl1.none
    exact ⟨v0, rfl, trivial⟩
  · have hl0 := leafs_spec 9 48 [.sl 4] fuel _ _ (by kernel_rfl) hx
    obtain ⟨A0, n0, c0, m0, rfl, w0, hl1⟩ := leaf_sl hl0
    obtain rfl := hl1.none
    exact ⟨A0, n0, c0, rfl, w0⟩
end Go.Proofs.Ytbogdbbmmlaohaa

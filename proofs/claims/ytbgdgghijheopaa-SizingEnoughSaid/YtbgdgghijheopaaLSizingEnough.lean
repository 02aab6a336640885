/- SizingEnough: the statement of the seat, proved: for every input the law returns true and leaves its arguments as they were. No condition. -/
import Derived.Test.YtbgdgghijheopaaRows
import Derived.Test.YtbgdgghijheopaaWSizingEnough
import Derived.Test.YtbgdgghijheopaaPSizingEnough
import Derived.Test.YtbgdgghijheopaaOpen
import Derived.WalkKit
import Derived.ProofKit
import Derived.OpenShut
import Derived.ShutString
import Derived.ChangeOld
import Derived.Below
import Derived.SizedLaws
import Derived.Carry
namespace Go.Proofs.Ytbgdgghijheopaa.sizingEnough
open Go.ChangeShapes Go.WideShapes Go.ChangeAt Go.RowKit Go.Saw
open Go.ChangeMaps (open_string shut_string)
set_option linter.unusedVariables false
theorem own : ownKnob Try.prog.godebug = none := by kernel_rfl
theorem laidOut : laidOutB Try.prog = true := by kernel_rfl
set_option maxRecDepth 100000 in
theorem lifted (os : Os) (started : os.Started) (H : Type) (enc : TypeId × Value → H) :
    ReturnsInHanded {} Try.checked os 6 .any (Rows.sizingEnoughSpec.pre6 enc Try.prog Try.f6 Rows.sizingEnoughRow.domain false) (Rows.sizingEnoughSpec.post enc Try.prog Try.f6 false true false false) := by
  refine returnsInHanded_of_change_sized (C := Try.checked) own started (by kernel_rfl) Try.func6
    (ChangeSpec.witness6 (enc := enc) (C := Try.checked) false ⟨#[], #[.agg #[.string (⟨#[]⟩ : ByteArray), .int .i64 0, .int .i64 0, .int .i64 0, .int .i64 0, .slice none 0 0, .slice none 0 0], .agg #[.string (⟨#[]⟩ : ByteArray), .int .i64 0, .int .i64 0, .int .i64 0, .int .i64 0, .int .i64 0, .int .i64 0, .int .i64 0, .int .i64 0, .int .i64 0, .int .i64 0, .int .i64 0, .int .i64 0], .int .i64 0], []⟩ 8 (by kernel_rfl) (by kernel_rfl) (by kernel_rfl) (by kernel_rfl)) ?_
  intro W base args ds gs before hval0 hW hcnd hsz0 _
  have hsz : (DataW.weightsEach Try.prog (Try.f6.params.toList ++ Rows.sizingEnoughSpec.plain.varTypes Try.prog) (ds ++ gs)).all (· ≤ reachBytes) = true := hsz0
  have hval : ∀ (j : Nat) t v, Try.f6.params[j]? = some t → args[j]? = some v → Value.okWide Try.prog W .any base t v := hval0
  have hW' := hW
  obtain ⟨p, q, hA0, hV, rfl, hfz, hnd⟩ := hW
  have hA : DataW.TrodAll enc Try.prog W 0 (fun _ => true) true Try.f6.params.toList args.toList ds p := hA0
  rw [Try.params6] at hA hval hsz
  obtain ⟨v0, vs0, d0, ds0, p0, q0, hargs, rfl, rfl, h0, r0⟩ := trodAll_cons hA
  obtain ⟨v1, vs1, d1, ds1, p1, q1, rfl, rfl, rfl, h1, r1⟩ := trodAll_cons r0
  obtain ⟨v2, vs2, d2, ds2, p2, q2, rfl, rfl, rfl, h2, r2⟩ := trodAll_cons r1
  obtain ⟨rfl, rfl, rfl⟩ := trodAll_nil r2
  obtain rfl : args = #[v0, v1, v2] := by cases args; simp_all
  obtain ⟨rfl, rfl⟩ := trodVars_none hV
  have k0 := h0
  have lt0 : ∀ x ∈ p0, x.block < W.heap.size := by obtain ⟨m, hm⟩ := k0; exact DataW.trod_lt m _ _ _ hm
  obtain ⟨vc0, rfl⟩ := okWide_agg Try.underlying33 rfl (hval 0 33 v0 rfl rfl)
  obtain ⟨fu0, hf0⟩ := h0
  have hl0_0 := leafs_spec 9 33 [.s, .i .i64, .i .i64, .i .i64, .i .i64, .sl 3, .sl 3] fu0 _ _ (by kernel_rfl) hf0
  obtain ⟨a0_0, m0_0, e0, wa0_0, hl0_1⟩ := leaf_s hl0_0
  obtain ⟨a0_1, m0_1, rfl, wa0_1, hl0_2⟩ := leaf_i hl0_1
  obtain ⟨a0_2, m0_2, rfl, wa0_2, hl0_3⟩ := leaf_i hl0_2
  obtain ⟨a0_3, m0_3, rfl, wa0_3, hl0_4⟩ := leaf_i hl0_3
  obtain ⟨a0_4, m0_4, rfl, wa0_4, hl0_5⟩ := leaf_i hl0_4
  obtain ⟨Aa0_5, na0_5, ca0_5, m0_5, rfl, wa0_5, hl0_6⟩ := leaf_sl hl0_5
  obtain ⟨Aa0_6, na0_6, ca0_6, m0_6, rfl, wa0_6, hl0_7⟩ := leaf_sl hl0_6
  obtain rfl := hl0_7.none
  obtain rfl : vc0 = #[.string a0_0, .int .i64 a0_1, .int .i64 a0_2, .int .i64 a0_3, .int .i64 a0_4, .slice Aa0_5 na0_5 ca0_5, .slice Aa0_6 na0_6 ca0_6] := agg_of e0
  have k1 := h1
  have lt1 : ∀ x ∈ p1, x.block < W.heap.size := by obtain ⟨m, hm⟩ := k1; exact DataW.trod_lt m _ _ _ hm
  obtain ⟨vc1, rfl⟩ := okWide_agg Try.underlying35 rfl (hval 1 35 v1 rfl rfl)
  obtain ⟨fu1, hf1⟩ := h1
  have hl1_0 := leafs_spec 9 35 [.s, .i .i64, .i .i64, .i .i64, .i .i64, .i .i64, .i .i64, .i .i64, .i .i64, .i .i64, .i .i64, .i .i64, .i .i64] fu1 _ _ (by kernel_rfl) hf1
  obtain ⟨a1_0, m1_0, e1, wa1_0, hl1_1⟩ := leaf_s hl1_0
  obtain ⟨a1_1, m1_1, rfl, wa1_1, hl1_2⟩ := leaf_i hl1_1
  obtain ⟨a1_2, m1_2, rfl, wa1_2, hl1_3⟩ := leaf_i hl1_2
  obtain ⟨a1_3, m1_3, rfl, wa1_3, hl1_4⟩ := leaf_i hl1_3
  obtain ⟨a1_4, m1_4, rfl, wa1_4, hl1_5⟩ := leaf_i hl1_4
  obtain ⟨a1_5, m1_5, rfl, wa1_5, hl1_6⟩ := leaf_i hl1_5
  obtain ⟨a1_6, m1_6, rfl, wa1_6, hl1_7⟩ := leaf_i hl1_6
  obtain ⟨a1_7, m1_7, rfl, wa1_7, hl1_8⟩ := leaf_i hl1_7
  obtain ⟨a1_8, m1_8, rfl, wa1_8, hl1_9⟩ := leaf_i hl1_8
  obtain ⟨a1_9, m1_9, rfl, wa1_9, hl1_10⟩ := leaf_i hl1_9
  obtain ⟨a1_10, m1_10, rfl, wa1_10, hl1_11⟩ := leaf_i hl1_10
  obtain ⟨a1_11, m1_11, rfl, wa1_11, hl1_12⟩ := leaf_i hl1_11
  obtain ⟨a1_12, m1_12, rfl, wa1_12, hl1_13⟩ := leaf_i hl1_12
  obtain rfl := hl1_13.none
  obtain rfl : vc1 = #[.string a1_0, .int .i64 a1_1, .int .i64 a1_2, .int .i64 a1_3, .int .i64 a1_4, .int .i64 a1_5, .int .i64 a1_6, .int .i64 a1_7, .int .i64 a1_8, .int .i64 a1_9, .int .i64 a1_10, .int .i64 a1_11, .int .i64 a1_12] := agg_of e1
  have k2 := h2
  have lt2 : ∀ x ∈ p2, x.block < W.heap.size := by obtain ⟨m, hm⟩ := k2; exact DataW.trod_lt m _ _ _ hm
  obtain ⟨a2, rfl, rfl, rfl, wa2⟩ := open_int Try.underlying3 (hval 2 3 v2 rfl rfl) h2
  clear hA0 hval0 hsz0 hsz
  obtain ⟨K, hK⟩ := Pure.SizingEnough a0_0 a0_1 a0_2 a0_3 a0_4 a1_0 a1_1 a1_2 a1_3 a1_4 a1_5 a1_6 a1_7 a1_8 a1_9 a1_10 a1_11 a1_12 a2 wa0_0 wa0_1 wa0_2 wa0_3 wa0_4 wa1_0 wa1_1 wa1_2 wa1_3 wa1_4 wa1_5 wa1_6 wa1_7 wa1_8 wa1_9 wa1_10 wa1_11 wa1_12 wa2
  refine (sawmilllaw39_SizingEnough.calls K a0_0 a0_1 a0_2 a0_3 a0_4 a1_0 a1_1 a1_2 a1_3 a1_4 a1_5 a1_6 a1_7 a1_8 a1_9 a1_10 a1_11 a1_12 a2 Aa0_5 na0_5 ca0_5 Aa0_6 na0_6 ca0_6 true W  hK).mono fun e W' ⟨he, bel⟩ => ?_
  subst he
  exact ⟨_, rfl, _, _, _, [], _, [], hW', trodAll_mk1 (shut_bool Try.underlying4 _), (trodAll_cons_mk (Below.trod laidOut (by kernel_rfl) (of_decide_eq_true (by kernel_rfl)) k0 bel lt0) (trodAll_cons_mk (Below.trod laidOut (by kernel_rfl) (of_decide_eq_true (by kernel_rfl)) k1 bel lt1) (trodAll_cons_mk (Below.trod laidOut (by kernel_rfl) (of_decide_eq_true (by kernel_rfl)) k2 bel lt2) trodAll_mk0))), rfl, bel.frame _, fun h => by cases h⟩
theorem over : Rows.sizingEnoughRow.holds Try.pinned (OpenSpec.ofChange Rows.sizingEnoughSpec) :=
  OpenClaim.holds_of_wide 6 Try.f6 rfl rfl rfl rfl rfl rfl rfl ⟨rfl, rfl, rfl, rfl, rfl⟩ rfl rfl rfl rfl rfl (by kernel_rfl) Try.func6 (by kernel_rfl)
    (of_decide_eq_true (by kernel_rfl)) (by unfold Func.isWrapper; first | (rw [if_pos (by decide +kernel)]; kernel_rfl) | (rw [if_neg (by decide +kernel)]; exact ⟨rfl, rfl⟩))
    (fun os started H enc _ => lifted os started H enc)
end Go.Proofs.Ytbgdgghijheopaa.sizingEnough
namespace Go.Proofs.Ytbgdgghijheopaa
/-- The row. -/
theorem sizingEnough_holds : Rows.SizingEnoughSaid := sizingEnough.over
end Go.Proofs.Ytbgdgghijheopaa

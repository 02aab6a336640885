/- DefectWindows: the statement of the seat, proved: for every input the law returns true and leaves its arguments as they were. No condition. -/
import Derived.Test.YtfjbhmpnmpphoaaRows
import Derived.Test.YtfjbhmpnmpphoaaWDefectWindows
import Derived.Test.YtfjbhmpnmpphoaaPDefectWindows
import Derived.Test.YtfjbhmpnmpphoaaOpen
import Derived.Test.YtfjbhmpnmpphoaaR
import Derived.WalkKit
import Derived.ProofKit
import Derived.OpenShut
import Derived.ShutString
import Derived.ChangeOld
import Derived.Below
import Derived.SizedLaws
import Derived.Carry
namespace Go.Proofs.Ytfjbhmpnmpphoaa.defectWindows
open Go.ChangeShapes Go.WideShapes Go.ChangeAt Go.RowKit Go.Saw
open Go.ChangeMaps (open_string shut_string)
set_option linter.unusedVariables false
theorem own : ownKnob Try.prog.godebug = none := by kernel_rfl
theorem laidOut : laidOutB Try.prog = true := by kernel_rfl
set_option maxRecDepth 100000 in
theorem lifted (os : Os) (started : os.Started) (H : Type) (enc : TypeId × Value → H) :
    ReturnsInHanded {} Try.checked os 14 .any (Rows.defectWindowsSpec.pre6 enc Try.prog Try.f14 Rows.defectWindowsRow.domain false) (Rows.defectWindowsSpec.post enc Try.prog Try.f14 false true false false) := by
  refine returnsInHanded_of_change_sized (C := Try.checked) own started (by kernel_rfl) Try.func14
    (ChangeSpec.witness6 (enc := enc) (C := Try.checked) false ⟨#[], #[.slice none 0 0, .agg #[.int .i64 0, .int .i64 0, .int .i64 0, .int .i64 0, .int .i64 0, .int .i64 0, .int .i64 0], .agg #[.int .i64 0, .int .i64 0]], []⟩ 8 (by kernel_rfl) (by kernel_rfl) (by kernel_rfl) (by kernel_rfl)) ?_
  intro W base args ds gs before hval0 hW hcnd hsz0 _
  have hsz : (DataW.weightsEach Try.prog (Try.f14.params.toList ++ Rows.defectWindowsSpec.plain.varTypes Try.prog) (ds ++ gs)).all (· ≤ reachBytes) = true := hsz0
  have hval : ∀ (j : Nat) t v, Try.f14.params[j]? = some t → args[j]? = some v → Value.okWide Try.prog W .any base t v := hval0
  have hW' := hW
  obtain ⟨p, q, hA0, hV, rfl, hfz, hnd⟩ := hW
  have hA : DataW.TrodAll enc Try.prog W 0 (fun _ => true) true Try.f14.params.toList args.toList ds p := hA0
  rw [Try.params14] at hA hval hsz
  obtain ⟨v0, vs0, d0, ds0, p0, q0, hargs, rfl, rfl, h0, r0⟩ := trodAll_cons hA
  obtain ⟨v1, vs1, d1, ds1, p1, q1, rfl, rfl, rfl, h1, r1⟩ := trodAll_cons r0
  obtain ⟨v2, vs2, d2, ds2, p2, q2, rfl, rfl, rfl, h2, r2⟩ := trodAll_cons r1
  obtain ⟨rfl, rfl, rfl⟩ := trodAll_nil r2
  obtain rfl : args = #[v0, v1, v2] := by cases args; simp_all
  obtain ⟨rfl, rfl⟩ := trodVars_none hV
  have k0 := h0
  have lt0 : ∀ x ∈ p0, x.block < W.heap.size := by obtain ⟨m, hm⟩ := k0; exact DataW.trod_lt m _ _ _ hm
  obtain ⟨Aa0, na0, ca0, rfl⟩ := okWide_slice Try.underlying26 (hval 0 26 v0 rfl rfl)
  have za0 : na0 * 56 ≤ 140737488351232 := sized_any hsz (j := 0) (t := 26) rfl rfl Try.underlying26 (by kernel_rfl) h0
  have sp0 := spot_arg Try.underlying26 (hval 0 26 _ rfl rfl)
  obtain ⟨fu0, hf0⟩ := h0
  have hl0_0 := leafs_spec 9 26 [.sl 41] fu0 _ _ (by kernel_rfl) hf0
  obtain ⟨Aa0_, na0_, ca0_, m0_, e0_, wa0_, _⟩ := leaf_sl hl0_0
  simp only [Value.cells, List.cons.injEq, Value.slice.injEq] at e0_
  obtain ⟨⟨rfl, rfl, rfl⟩, _⟩ := e0_
  obtain ⟨a0, rfl, wa0, fa0⟩ := row41 wa0_ sp0
  have k1 := h1
  have lt1 : ∀ x ∈ p1, x.block < W.heap.size := by obtain ⟨m, hm⟩ := k1; exact DataW.trod_lt m _ _ _ hm
  obtain ⟨vc1, rfl⟩ := okWide_agg Try.underlying41 rfl (hval 1 41 v1 rfl rfl)
  obtain ⟨fu1, hf1⟩ := h1
  have hl1_0 := leafs_spec 9 41 [.i .i64, .i .i64, .i .i64, .i .i64, .i .i64, .i .i64, .i .i64] fu1 _ _ (by kernel_rfl) hf1
  obtain ⟨a1_0, m1_0, e1, wa1_0, hl1_1⟩ := leaf_i hl1_0
  obtain ⟨a1_1, m1_1, rfl, wa1_1, hl1_2⟩ := leaf_i hl1_1
  obtain ⟨a1_2, m1_2, rfl, wa1_2, hl1_3⟩ := leaf_i hl1_2
  obtain ⟨a1_3, m1_3, rfl, wa1_3, hl1_4⟩ := leaf_i hl1_3
  obtain ⟨a1_4, m1_4, rfl, wa1_4, hl1_5⟩ := leaf_i hl1_4
  obtain ⟨a1_5, m1_5, rfl, wa1_5, hl1_6⟩ := leaf_i hl1_5
  obtain ⟨a1_6, m1_6, rfl, wa1_6, hl1_7⟩ := leaf_i hl1_6
  obtain rfl := hl1_7.none
  obtain rfl : vc1 = #[.int .i64 a1_0, .int .i64 a1_1, .int .i64 a1_2, .int .i64 a1_3, .int .i64 a1_4, .int .i64 a1_5, .int .i64 a1_6] := agg_of e1
  have k2 := h2
  have lt2 : ∀ x ∈ p2, x.block < W.heap.size := by obtain ⟨m, hm⟩ := k2; exact DataW.trod_lt m _ _ _ hm
  obtain ⟨vc2, rfl⟩ := okWide_agg Try.underlying62 rfl (hval 2 62 v2 rfl rfl)
  obtain ⟨fu2, hf2⟩ := h2
  have hl2_0 := leafs_spec 9 62 [.i .i64, .i .i64] fu2 _ _ (by kernel_rfl) hf2
  obtain ⟨a2_0, m2_0, e2, wa2_0, hl2_1⟩ := leaf_i hl2_0
  obtain ⟨a2_1, m2_1, rfl, wa2_1, hl2_2⟩ := leaf_i hl2_1
  obtain rfl := hl2_2.none
  obtain rfl : vc2 = #[.int .i64 a2_0, .int .i64 a2_1] := agg_of e2
  clear hA0 hval0 hsz0 hsz
  obtain ⟨K, hK⟩ := Pure.DefectWindows a0 a1_0 a1_1 a1_2 a1_3 a1_4 a1_5 a1_6 a2_0 a2_1 wa0 za0 wa1_0 wa1_1 wa1_2 wa1_3 wa1_4 wa1_5 wa1_6 wa2_0 wa2_1
  refine (sawmilllaw13_DefectWindows.calls K a0 a1_0 a1_1 a1_2 a1_3 a1_4 a1_5 a1_6 a2_0 a2_1 Aa0 ca0 true W fa0 hK).mono fun e W' ⟨he, bel⟩ => ?_
  subst he
  exact ⟨_, rfl, _, _, _, [], _, [], hW', trodAll_mk1 (shut_bool Try.underlying4 _), (trodAll_cons_mk (Below.trod laidOut (by kernel_rfl) (of_decide_eq_true (by kernel_rfl)) k0 bel lt0) (trodAll_cons_mk (Below.trod laidOut (by kernel_rfl) (of_decide_eq_true (by kernel_rfl)) k1 bel lt1) (trodAll_cons_mk (Below.trod laidOut (by kernel_rfl) (of_decide_eq_true (by kernel_rfl)) k2 bel lt2) trodAll_mk0))), rfl, bel.frame _, fun h => by cases h⟩
theorem over : Rows.defectWindowsRow.holds Try.pinned (OpenSpec.ofChange Rows.defectWindowsSpec) :=
  OpenClaim.holds_of_wide 14 Try.f14 rfl rfl rfl rfl rfl rfl rfl ⟨rfl, rfl, rfl, rfl, rfl⟩ rfl rfl rfl rfl rfl (by kernel_rfl) Try.func14 (by kernel_rfl)
    (of_decide_eq_true (by kernel_rfl)) (by unfold Func.isWrapper; first | (rw [if_pos (by decide +kernel)]; kernel_rfl) | (rw [if_neg (by decide +kernel)]; exact ⟨rfl, rfl⟩))
    (fun os started H enc _ => lifted os started H enc)
end Go.Proofs.Ytfjbhmpnmpphoaa.defectWindows
namespace Go.Proofs.Ytfjbhmpnmpphoaa
/-- The row. -/
theorem defectWindows_holds : Rows.DefectWindowsSaid := defectWindows.over
end Go.Proofs.Ytfjbhmpnmpphoaa

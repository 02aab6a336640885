/- AssignValids: the statement of the seat, proved: for every input the law returns true and leaves its arguments as they were. No condition. -/
import Derived.Test.YtbogdbbmmlaohaaRows
import Derived.Test.YtbogdbbmmlaohaaWAssignValids
import Derived.Test.YtbogdbbmmlaohaaPAssignValids
import Derived.Test.YtbogdbbmmlaohaaOpen
import Derived.Test.YtbogdbbmmlaohaaR
import Derived.WalkKit
import Derived.ProofKit
import Derived.OpenShut
import Derived.ShutString
import Derived.ChangeOld
import Derived.Below
import Derived.SizedLaws
import Derived.Carry
namespace Go.Proofs.Ytbogdbbmmlaohaa.assignValids
open Go.ChangeShapes Go.WideShapes Go.ChangeAt Go.RowKit Go.Saw
open Go.ChangeMaps (open_string shut_string)
set_option linter.unusedVariables false
theorem own : ownKnob Try.prog.godebug = none := by kernel_rfl
theorem laidOut : laidOutB Try.prog = true := by kernel_rfl
set_option maxRecDepth 100000 in
theorem lifted (os : Os) (started : os.Started) (H : Type) (enc : TypeId × Value → H) :
    ReturnsInHanded {} Try.checked os 5 .any (Rows.assignValidsSpec.pre6 enc Try.prog Try.f5 Rows.assignValidsRow.domain false) (Rows.assignValidsSpec.post enc Try.prog Try.f5 false true false false) := by
  refine returnsInHanded_of_change_sized (C := Try.checked) own started (by kernel_rfl) Try.func5
    (ChangeSpec.witness6 (enc := enc) (C := Try.checked) false ⟨#[], #[.agg #[.slice none 0 0, .slice none 0 0, .slice none 0 0], .slice none 0 0], []⟩ 8 (by kernel_rfl) (by kernel_rfl) (by kernel_rfl) (by kernel_rfl)) ?_
  intro W base args ds gs before hval0 hW hcnd hsz0 _
  have hsz : (DataW.weightsEach Try.prog (Try.f5.params.toList ++ Rows.assignValidsSpec.plain.varTypes Try.prog) (ds ++ gs)).all (· ≤ reachBytes) = true := hsz0
  have hval : ∀ (j : Nat) t v, Try.f5.params[j]? = some t → args[j]? = some v → Value.okWide Try.prog W .any base t v := hval0
  have hW' := hW
  obtain ⟨p, q, hA0, hV, rfl, hfz, hnd⟩ := hW
  have hA : DataW.TrodAll enc Try.prog W 0 (fun _ => true) true Try.f5.params.toList args.toList ds p := hA0
  rw [Try.params5] at hA hval hsz
  obtain ⟨v0, vs0, d0, ds0, p0, q0, hargs, rfl, rfl, h0, r0⟩ := trodAll_cons hA
  obtain ⟨v1, vs1, d1, ds1, p1, q1, rfl, rfl, rfl, h1, r1⟩ := trodAll_cons r0
  obtain ⟨rfl, rfl, rfl⟩ := trodAll_nil r1
  obtain rfl : args = #[v0, v1] := by cases args; simp_all
  obtain ⟨rfl, rfl⟩ := trodVars_none hV
  have k0 := h0
  have lt0 : ∀ x ∈ p0, x.block < W.heap.size := by obtain ⟨m, hm⟩ := k0; exact DataW.trod_lt m _ _ _ hm
  obtain ⟨vc0, rfl⟩ := okWide_agg Try.underlying51 rfl (hval 0 51 v0 rfl rfl)
  obtain ⟨fu0, hf0⟩ := h0
  have hl0_0 := leafs_spec 9 51 [.sl 48, .sl 3, .sl 3] fu0 _ _ (by kernel_rfl) hf0
  obtain ⟨Aa0_0, na0_0, ca0_0, m0_0, e0, wa0_0_, hl0_1⟩ := leaf_sl hl0_0
  obtain ⟨Aa0_1, na0_1, ca0_1, m0_1, rfl, wa0_1_, hl0_2⟩ := leaf_sl hl0_1
  obtain ⟨Aa0_2, na0_2, ca0_2, m0_2, rfl, wa0_2_, hl0_3⟩ := leaf_sl hl0_2
  obtain rfl := hl0_3.none
  obtain rfl : vc0 = #[.slice Aa0_0 na0_0 ca0_0, .slice Aa0_1 na0_1 ca0_1, .slice Aa0_2 na0_2 ca0_2] := agg_of e0
  obtain ⟨a0_0, rfl, fa0_0⟩ := row2_4 wa0_0_
  obtain ⟨a0_1, rfl, wa0_1, fa0_1⟩ := row3 wa0_1_ (spot_cell (i := 1) Try.underlying51 rfl (hval 0 51 _ rfl rfl) (by kernel_rfl) Try.underlying24 rfl)
  obtain ⟨a0_2, rfl, wa0_2, fa0_2⟩ := row3 wa0_2_ (spot_cell (i := 2) Try.underlying51 rfl (hval 0 51 _ rfl rfl) (by kernel_rfl) Try.underlying24 rfl)
  have k1 := h1
  have lt1 : ∀ x ∈ p1, x.block < W.heap.size := by obtain ⟨m, hm⟩ := k1; exact DataW.trod_lt m _ _ _ hm
  obtain ⟨Aa1, na1, ca1, rfl⟩ := okWide_slice Try.underlying24 (hval 1 24 v1 rfl rfl)
  have za1 : na1 * 8 ≤ 140737488351232 := sized_any hsz (j := 1) (t := 24) rfl rfl Try.underlying24 (by kernel_rfl) h1
  have sp1 := spot_arg Try.underlying24 (hval 1 24 _ rfl rfl)
  obtain ⟨fu1, hf1⟩ := h1
  have hl1_0 := leafs_spec 9 24 [.sl 3] fu1 _ _ (by kernel_rfl) hf1
  obtain ⟨Aa1_, na1_, ca1_, m1_, e1_, wa1_, _⟩ := leaf_sl hl1_0
  simp only [Value.cells, List.cons.injEq, Value.slice.injEq] at e1_
  obtain ⟨⟨rfl, rfl, rfl⟩, _⟩ := e1_
  obtain ⟨a1, rfl, wa1, fa1⟩ := row3 wa1_ sp1
  clear hA0 hval0 hsz0 hsz
  obtain ⟨K, hK⟩ := Pure.AssignValids a0_0 a0_1 a0_2 a1 wa0_1 wa0_2 wa1 za1
  refine (sawmilllaw48_AssignValids.calls K a0_0 a0_1 a0_2 a1 Aa0_0 ca0_0 Aa0_1 ca0_1 Aa0_2 ca0_2 Aa1 ca1 true W fa0_0 fa0_1 fa0_2 fa1 hK).mono fun e W' ⟨he, bel⟩ => ?_
  subst he
  exact ⟨_, rfl, _, _, _, [], _, [], hW', trodAll_mk1 (shut_bool Try.underlying4 _), (trodAll_cons_mk (Below.trod laidOut (by kernel_rfl) (of_decide_eq_true (by kernel_rfl)) k0 bel lt0) (trodAll_cons_mk (Below.trod laidOut (by kernel_rfl) (of_decide_eq_true (by kernel_rfl)) k1 bel lt1) trodAll_mk0)), rfl, bel.frame _, fun h => by cases h⟩
theorem over : Rows.assignValidsRow.holds Try.pinned (OpenSpec.ofChange Rows.assignValidsSpec) :=
  OpenClaim.holds_of_wide 5 Try.f5 rfl rfl rfl rfl rfl rfl rfl ⟨rfl, rfl, rfl, rfl, rfl⟩ rfl rfl rfl rfl rfl (by kernel_rfl) Try.func5 (by kernel_rfl)
    (of_decide_eq_true (by kernel_rfl)) (by unfold Func.isWrapper; first | (rw [if_pos (by decide +kernel)]; kernel_rfl) | (rw [if_neg (by decide +kernel)]; exact ⟨rfl, rfl⟩))
    (fun os started H enc _ => lifted os started H enc)
end Go.Proofs.Ytbogdbbmmlaohaa.assignValids
namespace Go.Proofs.Ytbogdbbmmlaohaa
/-- The row. -/
theorem assignValids_holds : Rows.AssignValidsSaid := assignValids.over
end Go.Proofs.Ytbogdbbmmlaohaa

/- AssignTables: the statement of the seat, proved: for every input the law returns true and leaves its arguments as they were. No condition. -/
import Derived.Test.YtbogdbbmmlaohaaRows
import Derived.Test.YtbogdbbmmlaohaaWAssignTables
import Derived.Test.YtbogdbbmmlaohaaPAssignTables
import Derived.Test.YtbogdbbmmlaohaaOpen
import Derived.Test.YtbogdbbmmlaohaaR
import Derived.WalkKit
import Derived.ProofKit
import Derived.OpenShut
import Derived.ShutString
import Derived.ChangeOld
import Derived.Below
import Derived.SizedLaws
import Derived.Carry
namespace Go.Proofs.Ytbogdbbmmlaohaa.assignTables
open Go.ChangeShapes Go.WideShapes Go.ChangeAt Go.RowKit Go.Saw
open Go.ChangeMaps (open_string shut_string)
set_option linter.unusedVariables false
theorem own : ownKnob Try.prog.godebug = none := by kernel_rfl
theorem laidOut : laidOutB Try.prog = true := by kernel_rfl
set_option maxRecDepth 100000 in
theorem lifted (os : Os) (started : os.Started) (H : Type) (enc : TypeId × Value → H) :
    ReturnsInHanded {} Try.checked os 4 .any (Rows.assignTablesSpec.pre6 enc Try.prog Try.f4 Rows.assignTablesRow.domain false) (Rows.assignTablesSpec.post enc Try.prog Try.f4 false true false false) := by
  refine returnsInHanded_of_change_sized (C := Try.checked) own started (by kernel_rfl) Try.func4
    (ChangeSpec.witness6 (enc := enc) (C := Try.checked) false ⟨#[], #[.slice none 0 0, .slice none 0 0], []⟩ 8 (by kernel_rfl) (by kernel_rfl) (by kernel_rfl) (by kernel_rfl)) ?_
  intro W base args ds gs before hval0 hW hcnd hsz0 _
  have hsz : (DataW.weightsEach Try.prog (Try.f4.params.toList ++ Rows.assignTablesSpec.plain.varTypes Try.prog) (ds ++ gs)).all (· ≤ reachBytes) = true := hsz0
  have hval : ∀ (j : Nat) t v, Try.f4.params[j]? = some t → args[j]? = some v → Value.okWide Try.prog W .any base t v := hval0
  have hW' := hW
  obtain ⟨p, q, hA0, hV, rfl, hfz, hnd⟩ := hW
  have hA : DataW.TrodAll enc Try.prog W 0 (fun _ => true) true Try.f4.params.toList args.toList ds p := hA0
  rw [Try.params4] at hA hval hsz
  obtain ⟨v0, vs0, d0, ds0, p0, q0, hargs, rfl, rfl, h0, r0⟩ := trodAll_cons hA
  obtain ⟨v1, vs1, d1, ds1, p1, q1, rfl, rfl, rfl, h1, r1⟩ := trodAll_cons r0
  obtain ⟨rfl, rfl, rfl⟩ := trodAll_nil r1
  obtain rfl : args = #[v0, v1] := by cases args; simp_all
  obtain ⟨rfl, rfl⟩ := trodVars_none hV
  have k0 := h0
  have lt0 : ∀ x ∈ p0, x.block < W.heap.size := by obtain ⟨m, hm⟩ := k0; exact DataW.trod_lt m _ _ _ hm
  obtain ⟨Aa0, na0, ca0, rfl⟩ := okWide_slice Try.underlying22 (hval 0 22 v0 rfl rfl)
  have za0 : na0 * 104 ≤ 140737488351232 := sized_any hsz (j := 0) (t := 22) rfl rfl Try.underlying22 (by kernel_rfl) h0
  have sp0 := spot_arg Try.underlying22 (hval 0 22 _ rfl rfl)
  obtain ⟨fu0, hf0⟩ := h0
  have hl0_0 := leafs_spec 9 22 [.sl 27] fu0 _ _ (by kernel_rfl) hf0
  obtain ⟨Aa0_, na0_, ca0_, m0_, e0_, wa0_, _⟩ := leaf_sl hl0_0
  simp only [Value.cells, List.cons.injEq, Value.slice.injEq] at e0_
  obtain ⟨⟨rfl, rfl, rfl⟩, _⟩ := e0_
  obtain ⟨a0, rfl, wa0, fa0⟩ := row27 wa0_ sp0
  have k1 := h1
  have lt1 : ∀ x ∈ p1, x.block < W.heap.size := by obtain ⟨m, hm⟩ := k1; exact DataW.trod_lt m _ _ _ hm
  obtain ⟨Aa1, na1, ca1, rfl⟩ := okWide_slice Try.underlying23 (hval 1 23 v1 rfl rfl)
  have za1 : na1 * 184 ≤ 140737488351232 := sized_any hsz (j := 1) (t := 23) rfl rfl Try.underlying23 (by kernel_rfl) h1
  have sp1 := spot_arg Try.underlying23 (hval 1 23 _ rfl rfl)
  obtain ⟨fu1, hf1⟩ := h1
  have hl1_0 := leafs_spec 9 23 [.sl 37] fu1 _ _ (by kernel_rfl) hf1
  obtain ⟨Aa1_, na1_, ca1_, m1_, e1_, wa1_, _⟩ := leaf_sl hl1_0
  simp only [Value.cells, List.cons.injEq, Value.slice.injEq] at e1_
  obtain ⟨⟨rfl, rfl, rfl⟩, _⟩ := e1_
  obtain ⟨a1, rfl, wa1, fa1⟩ := row37 wa1_ sp1
  clear hA0 hval0 hsz0 hsz
  obtain ⟨K, hK⟩ := Pure.AssignTables a0 a1 wa0 za0 wa1 za1
  refine (sawmilllaw48_AssignTables.calls K a0 a1 Aa0 ca0 Aa1 ca1 true W fa0 fa1 hK).mono fun e W' ⟨he, bel⟩ => ?_
  subst he
  exact ⟨_, rfl, _, _, _, [], _, [], hW', trodAll_mk1 (shut_bool Try.underlying4 _), (trodAll_cons_mk (Below.trod laidOut (by kernel_rfl) (of_decide_eq_true (by kernel_rfl)) k0 bel lt0) (trodAll_cons_mk (Below.trod laidOut (by kernel_rfl) (of_decide_eq_true (by kernel_rfl)) k1 bel lt1) trodAll_mk0)), rfl, bel.frame _, fun h => by cases h⟩
theorem over : Rows.assignTablesRow.holds Try.pinned (OpenSpec.ofChange Rows.assignTablesSpec) :=
  OpenClaim.holds_of_wide 4 Try.f4 rfl rfl rfl rfl rfl rfl rfl ⟨rfl, rfl, rfl, rfl, rfl⟩ rfl rfl rfl rfl rfl (by kernel_rfl) Try.func4 (by kernel_rfl)
    (of_decide_eq_true (by kernel_rfl)) (by unfold Func.isWrapper; first | (rw [if_pos (by decide +kernel)]; kernel_rfl) | (rw [if_neg (by decide +kernel)]; exact ⟨rfl, rfl⟩))
    (fun os started H enc _ => lifted os started H enc)
end Go.Proofs.Ytbogdbbmmlaohaa.assignTables
namespace Go.Proofs.Ytbogdbbmmlaohaa
/-- The row. -/
theorem assignTables_holds : Rows.AssignTablesSaid := assignTables.over
end Go.Proofs.Ytbogdbbmmlaohaa

/- TopOrders: the statement of the seat, proved: for every input the law returns true and leaves its arguments as they were. No condition. -/
import Derived.Test.YtbogdbbmmlaohaaRows
import Derived.Test.YtbogdbbmmlaohaaWTopOrders
import Derived.Test.YtbogdbbmmlaohaaPTopOrders
import Derived.Test.YtbogdbbmmlaohaaOpen
import Derived.Test.YtbogdbbmmlaohaaR
import Derived.WalkKit
import Derived.ProofKit
import Derived.OpenShut
import Derived.ShutString
import Derived.ChangeOld
import Derived.Below
import Derived.SizedLaws
import Derived.Carry
namespace Go.Proofs.Ytbogdbbmmlaohaa.topOrders
open Go.ChangeShapes Go.WideShapes Go.ChangeAt Go.RowKit Go.Saw
open Go.ChangeMaps (open_string shut_string)
set_option linter.unusedVariables false
theorem own : ownKnob Try.prog.godebug = none := by kernel_rfl
theorem laidOut : laidOutB Try.prog = true := by kernel_rfl
set_option maxRecDepth 100000 in
theorem lifted (os : Os) (started : os.Started) (H : Type) (enc : TypeId × Value → H) :
    ReturnsInHanded {} Try.checked os 3 .any (Rows.topOrdersSpec.pre6 enc Try.prog Try.f3 Rows.topOrdersRow.domain false) (Rows.topOrdersSpec.post enc Try.prog Try.f3 false true false false) := by
  refine returnsInHanded_of_change_sized (C := Try.checked) own started (by kernel_rfl) Try.func3
    (ChangeSpec.witness6 (enc := enc) (C := Try.checked) false ⟨#[], #[.slice none 0 0, .slice none 0 0, .slice none 0 0], []⟩ 8 (by kernel_rfl) (by kernel_rfl) (by kernel_rfl) (by kernel_rfl)) ?_
  intro W base args ds gs before hval0 hW hcnd hsz0 _
  have hsz : (DataW.weightsEach Try.prog (Try.f3.params.toList ++ Rows.topOrdersSpec.plain.varTypes Try.prog) (ds ++ gs)).all (· ≤ reachBytes) = true := hsz0
  have hval : ∀ (j : Nat) t v, Try.f3.params[j]? = some t → args[j]? = some v → Value.okWide Try.prog W .any base t v := hval0
  have hW' := hW
  obtain ⟨p, q, hA0, hV, rfl, hfz, hnd⟩ := hW
  have hA : DataW.TrodAll enc Try.prog W 0 (fun _ => true) true Try.f3.params.toList args.toList ds p := hA0
  rw [Try.params3] at hA hval hsz
  obtain ⟨v0, vs0, d0, ds0, p0, q0, hargs, rfl, rfl, h0, r0⟩ := trodAll_cons hA
  obtain ⟨v1, vs1, d1, ds1, p1, q1, rfl, rfl, rfl, h1, r1⟩ := trodAll_cons r0
  obtain ⟨v2, vs2, d2, ds2, p2, q2, rfl, rfl, rfl, h2, r2⟩ := trodAll_cons r1
  obtain ⟨rfl, rfl, rfl⟩ := trodAll_nil r2
  obtain rfl : args = #[v0, v1, v2] := by cases args; simp_all
  obtain ⟨rfl, rfl⟩ := trodVars_none hV
  have k0 := h0
  have lt0 : ∀ x ∈ p0, x.block < W.heap.size := by obtain ⟨m, hm⟩ := k0; exact DataW.trod_lt m _ _ _ hm
  obtain ⟨Aa0, na0, ca0, rfl⟩ := okWide_slice Try.underlying22 (hval 0 22 v0 rfl rfl)
  have za0 : na0 * 104 ≤ 140737488351232 := sized_any hsz (j := 0) (t := 22) rfl rfl Try.underlying22 (by kernel_rfl) h0
  have sp0 := spot_arg Try.underlying22 (hval 0 22 _ rfl rfl)
  obtain ⟨fu0, hf0⟩ := h0
  have hl0_0 := leafs_spec 9 22 [.sl 27] fu0 _ _ (by kernel_rfl) hf0
  obtain ⟨Aa0_, na0_, ca0_, m0_, e0_, wa0_, _⟩ := leaf_sl hl0_0
  simp only [Value.cells, List.cons.injEq, Value.slice.injEq] at e0_
  obtain ⟨⟨rfl, rfl, rfl⟩, _⟩ := e0_
  obtain ⟨a0, rfl, wa0, fa0⟩ := row27 wa0_ sp0
  have k1 := h1
  have lt1 : ∀ x ∈ p1, x.block < W.heap.size := by obtain ⟨m, hm⟩ := k1; exact DataW.trod_lt m _ _ _ hm
  obtain ⟨Aa1, na1, ca1, rfl⟩ := okWide_slice Try.underlying23 (hval 1 23 v1 rfl rfl)
  have za1 : na1 * 184 ≤ 140737488351232 := sized_any hsz (j := 1) (t := 23) rfl rfl Try.underlying23 (by kernel_rfl) h1
  have sp1 := spot_arg Try.underlying23 (hval 1 23 _ rfl rfl)
  obtain ⟨fu1, hf1⟩ := h1
  have hl1_0 := leafs_spec 9 23 [.sl 37] fu1 _ _ (by kernel_rfl) hf1
  obtain ⟨Aa1_, na1_, ca1_, m1_, e1_, wa1_, _⟩ := leaf_sl hl1_0
  simp only [Value.cells, List.cons.injEq, Value.slice.injEq] at e1_
  obtain ⟨⟨rfl, rfl, rfl⟩, _⟩ := e1_
  obtain ⟨a1, rfl, wa1, fa1⟩ := row37 wa1_ sp1
  have k2 := h2
  have lt2 : ∀ x ∈ p2, x.block < W.heap.size := by obtain ⟨m, hm⟩ := k2; exact DataW.trod_lt m _ _ _ hm
  obtain ⟨Aa2, na2, ca2, rfl⟩ := okWide_slice Try.underlying24 (hval 2 24 v2 rfl rfl)
  have za2 : na2 * 8 ≤ 140737488351232 := sized_any hsz (j := 2) (t := 24) rfl rfl Try.underlying24 (by kernel_rfl) h2
  have sp2 := spot_arg Try.underlying24 (hval 2 24 _ rfl rfl)
  obtain ⟨fu2, hf2⟩ := h2
  have hl2_0 := leafs_spec 9 24 [.sl 3] fu2 _ _ (by kernel_rfl) hf2
  obtain ⟨Aa2_, na2_, ca2_, m2_, e2_, wa2_, _⟩ := leaf_sl hl2_0
  simp only [Value.cells, List.cons.injEq, Value.slice.injEq] at e2_
  obtain ⟨⟨rfl, rfl, rfl⟩, _⟩ := e2_
  obtain ⟨a2, rfl, wa2, fa2⟩ := row3 wa2_ sp2
  clear hA0 hval0 hsz0 hsz
  obtain ⟨K, hK⟩ := Pure.TopOrders a0 a1 a2 wa0 za0 wa1 za1 wa2 za2
  refine (sawmilltop_TopOrders.calls K a0 a1 a2 Aa0 ca0 Aa1 ca1 Aa2 ca2 true W fa0 fa1 fa2 hK).mono fun e W' ⟨he, bel⟩ => ?_
  subst he
  exact ⟨_, rfl, _, _, _, [], _, [], hW', trodAll_mk1 (shut_bool Try.underlying4 _), (trodAll_cons_mk (Below.trod laidOut (by kernel_rfl) (of_decide_eq_true (by kernel_rfl)) k0 bel lt0) (trodAll_cons_mk (Below.trod laidOut (by kernel_rfl) (of_decide_eq_true (by kernel_rfl)) k1 bel lt1) (trodAll_cons_mk (Below.trod laidOut (by kernel_rfl) (of_decide_eq_true (by kernel_rfl)) k2 bel lt2) trodAll_mk0))), rfl, bel.frame _, fun h => by cases h⟩
theorem over : Rows.topOrdersRow.holds Try.pinned (OpenSpec.ofChange Rows.topOrdersSpec) :=
  OpenClaim.holds_of_wide 3 Try.f3 rfl rfl rfl rfl rfl rfl rfl ⟨rfl, rfl, rfl, rfl, rfl⟩ rfl rfl rfl rfl rfl (by kernel_rfl) Try.func3 (by kernel_rfl)
    (of_decide_eq_true (by kernel_rfl)) (by unfold Func.isWrapper; first | (rw [if_pos (by decide +kernel)]; kernel_rfl) | (rw [if_neg (by decide +kernel)]; exact ⟨rfl, rfl⟩))
    (fun os started H enc _ => lifted os started H enc)
end Go.Proofs.Ytbogdbbmmlaohaa.topOrders
namespace Go.Proofs.Ytbogdbbmmlaohaa
/-- The row. -/
theorem topOrders_holds : Rows.TopOrdersSaid := topOrders.over
end Go.Proofs.Ytbogdbbmmlaohaa

/- StrengthMoved: the statement of the seat, proved: for every input the law returns true and leaves its arguments as they were. No condition. -/
import Derived.Test.YtfjbhmpnmpphoaaRows
import Derived.Test.YtfjbhmpnmpphoaaWStrengthMoved
import Derived.Test.YtfjbhmpnmpphoaaPStrengthMoved
import Derived.Test.YtfjbhmpnmpphoaaOpen
import Derived.Test.YtfjbhmpnmpphoaaR
import Derived.WalkKit
import Derived.ProofKit
import Derived.OpenShut
import Derived.ShutString
import Derived.ChangeOld
import Derived.Below
import Derived.SizedLaws
import Derived.Carry
namespace Go.Proofs.Ytfjbhmpnmpphoaa.strengthMoved
open Go.ChangeShapes Go.WideShapes Go.ChangeAt Go.RowKit Go.Saw
open Go.ChangeMaps (open_string shut_string)
set_option linter.unusedVariables false
theorem own : ownKnob Try.prog.godebug = none := by kernel_rfl
theorem laidOut : laidOutB Try.prog = true := by kernel_rfl
set_option maxRecDepth 100000 in
theorem lifted (os : Os) (started : os.Started) (H : Type) (enc : TypeId × Value → H) :
    ReturnsInHanded {} Try.checked os 6 .any (Rows.strengthMovedSpec.pre6 enc Try.prog Try.f6 Rows.strengthMovedRow.domain false) (Rows.strengthMovedSpec.post enc Try.prog Try.f6 false true false false) := by
  refine returnsInHanded_of_change_sized (C := Try.checked) own started (by kernel_rfl) Try.func6
    (ChangeSpec.witness6 (enc := enc) (C := Try.checked) false ⟨#[], #[.agg #[.string (⟨#[]⟩ : ByteArray), .string (⟨#[]⟩ : ByteArray), .string (⟨#[]⟩ : ByteArray), .int .i64 0, .int .i64 0, .int .i64 0, .int .i64 0, .int .i64 0, .int .i64 0, .int .i64 0, .int .i64 0, .slice none 0 0, .int .i64 0, .int .i64 0, .int .i64 0, .int .i64 0, .bool false, .int .i64 0], .agg #[.string (⟨#[]⟩ : ByteArray), .int .i64 0, .int .i64 0, .int .i64 0, .int .i64 0, .int .i64 0, .int .i64 0, .int .i64 0, .int .i64 0, .int .i64 0, .int .i64 0, .int .i64 0, .int .i64 0], .agg #[.string (⟨#[]⟩ : ByteArray), .string (⟨#[]⟩ : ByteArray), .string (⟨#[]⟩ : ByteArray), .int .i64 0, .int .i64 0, .int .i64 0, .int .i64 0, .int .i64 0, .int .i64 0, .int .i64 0, .int .i64 0, .slice none 0 0, .int .i64 0, .int .i64 0, .int .i64 0, .int .i64 0, .bool false, .int .i64 0]], []⟩ 8 (by kernel_rfl) (by kernel_rfl) (by kernel_rfl) (by kernel_rfl)) ?_
  intro W base args ds gs before hval0 hW hcnd hsz0 _
  have hsz : (DataW.weightsEach Try.prog (Try.f6.params.toList ++ Rows.strengthMovedSpec.plain.varTypes Try.prog) (ds ++ gs)).all (· ≤ reachBytes) = true := hsz0
  have hval : ∀ (j : Nat) t v, Try.f6.params[j]? = some t → args[j]? = some v → Value.okWide Try.prog W .any base t v := hval0
  have hW' := hW
  obtain ⟨p, q, hA0, hV, rfl, hfz, hnd⟩ := hW
  have hA : DataW.TrodAll enc Try.prog W 0 (fun _ => true) true Try.f6.params.toList args.toList ds p := hA0
  rw [Try.params6] at hA hval hsz
  obtain ⟨v0, vs0, d0, ds0, p0, q0, hargs, rfl, rfl, h0, r0⟩ := trodAll_cons hA
  obtain ⟨v1, vs1, d1, ds1, p1, q1, rfl, rfl, rfl, h1, r1⟩ := trodAll_cons r0
  obtain ⟨v2, vs2, d2, ds2, p2, q2, rfl, rfl, rfl, h2, r2⟩ := trodAll_cons r1
  obtain ⟨rfl, rfl, rfl⟩ := trodAll_nil r2
  obtain rfl : args = #[v0, v1, v2] := by cases args; simp_all
  obtain ⟨rfl, rfl⟩ := trodVars_none hV
  have k0 := h0
  have lt0 : ∀ x ∈ p0, x.block < W.heap.size := by obtain ⟨m, hm⟩ := k0; exact DataW.trod_lt m _ _ _ hm
  obtain ⟨vc0, rfl⟩ := okWide_agg Try.underlying30 rfl (hval 0 30 v0 rfl rfl)
  obtain ⟨fu0, hf0⟩ := h0
  have hl0_0 := leafs_spec 9 30 [.s, .s, .s, .i .i64, .i .i64, .i .i64, .i .i64, .i .i64, .i .i64, .i .i64, .i .i64, .sl 41, .i .i64, .i .i64, .i .i64, .i .i64, .b, .i .i64] fu0 _ _ (by kernel_rfl) hf0
  obtain ⟨a0_0, m0_0, e0, wa0_0, hl0_1⟩ := leaf_s hl0_0
  obtain ⟨a0_1, m0_1, rfl, wa0_1, hl0_2⟩ := leaf_s hl0_1
  obtain ⟨a0_2, m0_2, rfl, wa0_2, hl0_3⟩ := leaf_s hl0_2
  obtain ⟨a0_3, m0_3, rfl, wa0_3, hl0_4⟩ := leaf_i hl0_3
  obtain ⟨a0_4, m0_4, rfl, wa0_4, hl0_5⟩ := leaf_i hl0_4
  obtain ⟨a0_5, m0_5, rfl, wa0_5, hl0_6⟩ := leaf_i hl0_5
  obtain ⟨a0_6, m0_6, rfl, wa0_6, hl0_7⟩ := leaf_i hl0_6
  obtain ⟨a0_7, m0_7, rfl, wa0_7, hl0_8⟩ := leaf_i hl0_7
  obtain ⟨a0_8, m0_8, rfl, wa0_8, hl0_9⟩ := leaf_i hl0_8
  obtain ⟨a0_9, m0_9, rfl, wa0_9, hl0_10⟩ := leaf_i hl0_9
  obtain ⟨a0_10, m0_10, rfl, wa0_10, hl0_11⟩ := leaf_i hl0_10
  obtain ⟨Aa0_11, na0_11, ca0_11, m0_11, rfl, wa0_11_, hl0_12⟩ := leaf_sl hl0_11
  obtain ⟨a0_12, m0_12, rfl, wa0_12, hl0_13⟩ := leaf_i hl0_12
  obtain ⟨a0_13, m0_13, rfl, wa0_13, hl0_14⟩ := leaf_i hl0_13
  obtain ⟨a0_14, m0_14, rfl, wa0_14, hl0_15⟩ := leaf_i hl0_14
  obtain ⟨a0_15, m0_15, rfl, wa0_15, hl0_16⟩ := leaf_i hl0_15
  obtain ⟨a0_16, m0_16, rfl, hl0_17⟩ := leaf_b hl0_16
  obtain ⟨a0_17, m0_17, rfl, wa0_17, hl0_18⟩ := leaf_i hl0_17
  obtain rfl := hl0_18.none
  obtain rfl : vc0 = #[.string a0_0, .string a0_1, .string a0_2, .int .i64 a0_3, .int .i64 a0_4, .int .i64 a0_5, .int .i64 a0_6, .int .i64 a0_7, .int .i64 a0_8, .int .i64 a0_9, .int .i64 a0_10, .slice Aa0_11 na0_11 ca0_11, .int .i64 a0_12, .int .i64 a0_13, .int .i64 a0_14, .int .i64 a0_15, .bool a0_16, .int .i64 a0_17] := agg_of e0
  obtain ⟨a0_11, rfl, wa0_11, fa0_11⟩ := row41 wa0_11_ (spot_cell (i := 11) Try.underlying30 rfl (hval 0 30 _ rfl rfl) (by kernel_rfl) Try.underlying26 rfl)
  have k1 := h1
  have lt1 : ∀ x ∈ p1, x.block < W.heap.size := by obtain ⟨m, hm⟩ := k1; exact DataW.trod_lt m _ _ _ hm
  obtain ⟨vc1, rfl⟩ := okWide_agg Try.underlying32 rfl (hval 1 32 v1 rfl rfl)
  obtain ⟨fu1, hf1⟩ := h1
  have hl1_0 := leafs_spec 9 32 [.s, .i .i64, .i .i64, .i .i64, .i .i64, .i .i64, .i .i64, .i .i64, .i .i64, .i .i64, .i .i64, .i .i64, .i .i64] fu1 _ _ (by kernel_rfl) hf1
  obtain ⟨a1_0, m1_0, e1, wa1_0, hl1_1⟩ := leaf_s hl1_0
  obtain ⟨a1_1, m1_1, rfl, wa1_1, hl1_2⟩ := leaf_i hl1_1
  obtain ⟨a1_2, m1_2, rfl, wa1_2, hl1_3⟩ := leaf_i hl1_2
  obtain ⟨a1_3, m1_3, rfl, wa1_3, hl1_4⟩ := leaf_i hl1_3
  obtain ⟨a1_4, m1_4, rfl, wa1_4, hl1_5⟩ := leaf_i hl1_4
  obtain ⟨a1_5, m1_5, rfl, wa1_5, hl1_6⟩ := leaf_i hl1_5
  obtain ⟨a1_6, m1_6, rfl, wa1_6, hl1_7⟩ := leaf_i hl1_6
  obtain ⟨a1_7, m1_7, rfl, wa1_7, hl1_8⟩ := leaf_i hl1_7
  obtain ⟨a1_8, m1_8, rfl, wa1_8, hl1_9⟩ := leaf_i hl1_8
  obtain ⟨a1_9, m1_9, rfl, wa1_9, hl1_10⟩ := leaf_i hl1_9
  obtain ⟨a1_10, m1_10, rfl, wa1_10, hl1_11⟩ := leaf_i hl1_10
  obtain ⟨a1_11, m1_11, rfl, wa1_11, hl1_12⟩ := leaf_i hl1_11
  obtain ⟨a1_12, m1_12, rfl, wa1_12, hl1_13⟩ := leaf_i hl1_12
  obtain rfl := hl1_13.none
  obtain rfl : vc1 = #[.string a1_0, .int .i64 a1_1, .int .i64 a1_2, .int .i64 a1_3, .int .i64 a1_4, .int .i64 a1_5, .int .i64 a1_6, .int .i64 a1_7, .int .i64 a1_8, .int .i64 a1_9, .int .i64 a1_10, .int .i64 a1_11, .int .i64 a1_12] := agg_of e1
  have k2 := h2
  have lt2 : ∀ x ∈ p2, x.block < W.heap.size := by obtain ⟨m, hm⟩ := k2; exact DataW.trod_lt m _ _ _ hm
  obtain ⟨vc2, rfl⟩ := okWide_agg Try.underlying30 rfl (hval 2 30 v2 rfl rfl)
  obtain ⟨fu2, hf2⟩ := h2
  have hl2_0 := leafs_spec 9 30 [.s, .s, .s, .i .i64, .i .i64, .i .i64, .i .i64, .i .i64, .i .i64, .i .i64, .i .i64, .sl 41, .i .i64, .i .i64, .i .i64, .i .i64, .b, .i .i64] fu2 _ _ (by kernel_rfl) hf2
  obtain ⟨a2_0, m2_0, e2, wa2_0, hl2_1⟩ := leaf_s hl2_0
  obtain ⟨a2_1, m2_1, rfl, wa2_1, hl2_2⟩ := leaf_s hl2_1
  obtain ⟨a2_2, m2_2, rfl, wa2_2, hl2_3⟩ := leaf_s hl2_2
  obtain ⟨a2_3, m2_3, rfl, wa2_3, hl2_4⟩ := leaf_i hl2_3
  obtain ⟨a2_4, m2_4, rfl, wa2_4, hl2_5⟩ := leaf_i hl2_4
  obtain ⟨a2_5, m2_5, rfl, wa2_5, hl2_6⟩ := leaf_i hl2_5
  obtain ⟨a2_6, m2_6, rfl, wa2_6, hl2_7⟩ := leaf_i hl2_6
  obtain ⟨a2_7, m2_7, rfl, wa2_7, hl2_8⟩ := leaf_i hl2_7
  obtain ⟨a2_8, m2_8, rfl, wa2_8, hl2_9⟩ := leaf_i hl2_8
  obtain ⟨a2_9, m2_9, rfl, wa2_9, hl2_10⟩ := leaf_i hl2_9
  obtain ⟨a2_10, m2_10, rfl, wa2_10, hl2_11⟩ := leaf_i hl2_10
  obtain ⟨Aa2_11, na2_11, ca2_11, m2_11, rfl, wa2_11_, hl2_12⟩ := leaf_sl hl2_11
  obtain ⟨a2_12, m2_12, rfl, wa2_12, hl2_13⟩ := leaf_i hl2_12
  obtain ⟨a2_13, m2_13, rfl, wa2_13, hl2_14⟩ := leaf_i hl2_13
  obtain ⟨a2_14, m2_14, rfl, wa2_14, hl2_15⟩ := leaf_i hl2_14
  obtain ⟨a2_15, m2_15, rfl, wa2_15, hl2_16⟩ := leaf_i hl2_15
  obtain ⟨a2_16, m2_16, rfl, hl2_17⟩ := leaf_b hl2_16
  obtain ⟨a2_17, m2_17, rfl, wa2_17, hl2_18⟩ := leaf_i hl2_17
  obtain rfl := hl2_18.none
  obtain rfl : vc2 = #[.string a2_0, .string a2_1, .string a2_2, .int .i64 a2_3, .int .i64 a2_4, .int .i64 a2_5, .int .i64 a2_6, .int .i64 a2_7, .int .i64 a2_8, .int .i64 a2_9, .int .i64 a2_10, .slice Aa2_11 na2_11 ca2_11, .int .i64 a2_12, .int .i64 a2_13, .int .i64 a2_14, .int .i64 a2_15, .bool a2_16, .int .i64 a2_17] := agg_of e2
  obtain ⟨a2_11, rfl, wa2_11, fa2_11⟩ := row41 wa2_11_ (spot_cell (i := 11) Try.underlying30 rfl (hval 2 30 _ rfl rfl) (by kernel_rfl) Try.underlying26 rfl)
  clear hA0 hval0 hsz0 hsz
  obtain ⟨K, hK⟩ := Pure.StrengthMoved a0_0 a0_1 a0_2 a0_3 a0_4 a0_5 a0_6 a0_7 a0_8 a0_9 a0_10 a0_11 a0_12 a0_13 a0_14 a0_15 a0_16 a0_17 a1_0 a1_1 a1_2 a1_3 a1_4 a1_5 a1_6 a1_7 a1_8 a1_9 a1_10 a1_11 a1_12 a2_0 a2_1 a2_2 a2_3 a2_4 a2_5 a2_6 a2_7 a2_8 a2_9 a2_10 a2_11 a2_12 a2_13 a2_14 a2_15 a2_16 a2_17 wa0_0 wa0_1 wa0_2 wa0_3 wa0_4 wa0_5 wa0_6 wa0_7 wa0_8 wa0_9 wa0_10 wa0_11 wa0_12 wa0_13 wa0_14 wa0_15 wa0_17 wa1_0 wa1_1 wa1_2 wa1_3 wa1_4 wa1_5 wa1_6 wa1_7 wa1_8 wa1_9 wa1_10 wa1_11 wa1_12 wa2_0 wa2_1 wa2_2 wa2_3 wa2_4 wa2_5 wa2_6 wa2_7 wa2_8 wa2_9 wa2_10 wa2_11 wa2_12 wa2_13 wa2_14 wa2_15 wa2_17
  refine (sawmilllaw41_StrengthMoved.calls K a0_0 a0_1 a0_2 a0_3 a0_4 a0_5 a0_6 a0_7 a0_8 a0_9 a0_10 a0_11 a0_12 a0_13 a0_14 a0_15 a0_16 a0_17 a1_0 a1_1 a1_2 a1_3 a1_4 a1_5 a1_6 a1_7 a1_8 a1_9 a1_10 a1_11 a1_12 a2_0 a2_1 a2_2 a2_3 a2_4 a2_5 a2_6 a2_7 a2_8 a2_9 a2_10 a2_11 a2_12 a2_13 a2_14 a2_15 a2_16 a2_17 Aa0_11 ca0_11 Aa2_11 ca2_11 true W fa0_11 fa2_11 hK).mono fun e W' ⟨he, bel⟩ => ?_
  subst he
  exact ⟨_, rfl, _, _, _, [], _, [], hW', trodAll_mk1 (shut_bool Try.underlying4 _), (trodAll_cons_mk (Below.trod laidOut (by kernel_rfl) (of_decide_eq_true (by kernel_rfl)) k0 bel lt0) (trodAll_cons_mk (Below.trod laidOut (by kernel_rfl) (of_decide_eq_true (by kernel_rfl)) k1 bel lt1) (trodAll_cons_mk (Below.trod laidOut (by kernel_rfl) (of_decide_eq_true (by kernel_rfl)) k2 bel lt2) trodAll_mk0))), rfl, bel.frame _, fun h => by cases h⟩
theorem over : Rows.strengthMovedRow.holds Try.pinned (OpenSpec.ofChange Rows.strengthMovedSpec) :=
  OpenClaim.holds_of_wide 6 Try.f6 rfl rfl rfl rfl rfl rfl rfl ⟨rfl, rfl, rfl, rfl, rfl⟩ rfl rfl rfl rfl rfl (by kernel_rfl) Try.func6 (by kernel_rfl)
    (of_decide_eq_true (by kernel_rfl)) (by unfold Func.isWrapper; first | (rw [if_pos (by decide +kernel)]; kernel_rfl) | (rw [if_neg (by decide +kernel)]; exact ⟨rfl, rfl⟩))
    (fun os started H enc _ => lifted os started H enc)
end Go.Proofs.Ytfjbhmpnmpphoaa.strengthMoved
namespace Go.Proofs.Ytfjbhmpnmpphoaa
/-- The row. -/
theorem strengthMoved_holds : Rows.StrengthMovedSaid := strengthMoved.over
end Go.Proofs.Ytfjbhmpnmpphoaa

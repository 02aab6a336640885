/- The library's Clone and DeleteFunc at lists of defects, and 'chosen' over them: what holds is kept, in its order. -/
import Derived.Test.YtfjbhmpnmpphoaaF0
namespace Go.Proofs.Ytfjbhmpnmpphoaa
open Go.Saw Go.RowKit
set_option linter.unusedVariables false
set_option linter.unusedSimpArgs false
theorem wrap_in {n : Int} (h : 0 ≤ n) (h' : n < 9223372036854775808) : IntKind.i64.wrap n = n := by
  simp [IntKind.wrap, IntKind.bits, IntKind.signed]
  split <;> omega
/-! ### Clone: function 82 -/
set_option maxRecDepth 100000 in
theorem clone_calls (l : List E41) (A : Option Addr) (cp : Nat) (w : World) (k : KRow (Cx.start w) enc41 7 l A) (hb : l.length * 56 ≤ 140737488355328) :
    Calls Try.prog 82 #[.slice A l.length cp] w (fun e w' => ∃ A' cp' ba, e = .returned (.slice A' l.length cp') ∧ Own enc41 7 41 l A' cp' ba ∧ Inv (Cx.start w) ba w') := by
  refine Go.Saw.calls (args := [.slice A l.length cp]) Try.func82 rfl Try.ntmps82 (by kernel_rfl) ?_
  refine J.seq ?_
  refine J.plain ?_
  refine LL.op (.slice none 0 0) (by kernel_rfl) (fun w _ => by kernel_rfl) ?_
  refine LL.done (s' := [(0, .slice A l.length cp), (2, .slice none 0 0)]) [0, 2] (by kernel_rfl) ?_
  refine NN.then ?_
  refine J.seq ?_
  refine J.seq ?_
  refine J.plain ?_
  refine LL.op (.slice A l.length cp) (by kernel_rfl) (fun w _ => by kernel_rfl) ?_
  cases A with
  | none =>
    have hl : l = [] := by
      cases l with
      | nil => rfl
      | cons x l => obtain ⟨_, b, q, h, _⟩ := k 0 x rfl; cases h
    subst hl
    refine LL.op (.bool true) (by kernel_rfl) (fun w _ => by kernel_rfl) ?_
    refine LL.done (s' := [(0, .slice none 0 cp), (2, .slice none 0 0), (4, .bool true)]) [0, 2, 4] (by kernel_rfl) ?_
    refine NN.then ?_
    refine J.condT (b := true) rfl (by kernel_rfl) (by kernel_rfl) ?_
    refine J.seq ?_
    refine J.plain ?_
    refine LL.op (.slice none 0 0) (by kernel_rfl) (fun w _ => by kernel_rfl) ?_
    refine LL.done (s' := [(2, .slice none 0 0)]) [2] (by kernel_rfl) ?_
    refine NN.then ?_
    refine J.ret ?_
    refine NN.then_ret ?_
    exact NN.fin1 2 (.slice none 0 0) (by kernel_rfl) (by kernel_rfl) (.inl rfl) (fun w hi => ⟨none, 0, [], rfl, .nil _ rfl, hi⟩)
  | some a =>
    refine LL.op (.bool false) (by kernel_rfl) (fun w _ => by kernel_rfl) ?_
    refine LL.done (s' := [(0, .slice (some a) l.length cp), (2, .slice none 0 0), (4, .bool false)]) [0, 2, 4] (by kernel_rfl) ?_
    refine NN.then ?_
    refine J.condF (b := false) rfl (by kernel_rfl) (by kernel_rfl) ?_
    refine J.skip ?_
    refine NN.then ?_
    refine J.seq ?_
    refine J.plain ?_
    refine LL.lit0 26 41 7 enc41 (by kernel_rfl) rfl (by kernel_rfl) (fun A0 o0 => ?_)
    refine LL.op (.slice (some a) l.length cp) (by kernel_rfl) (fun w _ => by kernel_rfl) ?_
    refine LL.app (l2 := l) (r := l) (cap := 0) (c2 := cp) [] (.tmp 5) (.tmp 6) el26 ok41 o0 k (by unfold app; rw [if_pos (by simpa using hb)]; rfl) (by kernel_rfl) rfl (by kernel_rfl) (by kernel_rfl) (fun A1 c1 ba1 o1 => ?_)
    refine LL.op (.slice A1 l.length c1) (by kernel_rfl) (fun w _ => by kernel_rfl) ?_
    refine LL.done (s' := [(2, .slice A1 l.length c1)]) [2] (by kernel_rfl) ?_
    refine NN.then ?_
    refine J.ret ?_
    exact NN.fin1 2 (.slice A1 l.length c1) (by kernel_rfl) (by kernel_rfl) (.inl rfl) (fun w hi => ⟨A1, c1, ba1, rfl, o1, hi⟩)
/-! ### IndexFunc, in plain words -/
def fi (q : E41 → Bool) : List E41 → Nat → Int
  | [], _ => -1
  | x :: r, i => if q x then i else fi q r (i + 1)
theorem idx_at {l : List E41} {i : Nat} {x : E41} (h : l[i]? = some x) : idx l (i : Int) = some x := by
  unfold idx; rw [if_neg (by omega)]; simpa using h
theorem ix_loop (l : List E41) (q : E41 → Bool) (hb : l.length < 9223372036854775807) (K : Nat) : ∀ (d i j : Nat), i + d = l.length → d < j → slices_IndexFunc.l0 K l q j i = some (fi q (l.drop i) i)
  | 0, i, j, hd, hj => by
    obtain ⟨j, rfl⟩ : ∃ k, j = k + 1 := ⟨j - 1, by omega⟩
    simp only [slices_IndexFunc.l0]
    rw [if_neg (by omega), List.drop_eq_nil_of_le (by omega)]
    rfl
  | d + 1, i, j, hd, hj => by
    obtain ⟨j, rfl⟩ : ∃ k, j = k + 1 := ⟨j - 1, by omega⟩
    have hlt : i < l.length := by omega
    have ih := ix_loop l q hb K d (i + 1) j (by omega) (by omega)
    simp only [slices_IndexFunc.l0]
    rw [if_pos (by omega), idx_at (List.getElem?_eq_getElem hlt), Option.bind_some, List.drop_eq_getElem_cons hlt]
    rw [wrap_in (by omega) (by omega)]
    simp only [fi]
    have e : ((i : Int) + 1) = ((i + 1 : Nat) : Int) := by omega
    rw [e, ih]
    split <;> rfl
theorem ix_eq (l : List E41) (q : E41 → Bool) (hb : l.length < 9223372036854775807) : slices_IndexFunc.f (l.length + 1) l q = some (fi q l 0) := by
  unfold slices_IndexFunc.f
  have := ix_loop l q hb (l.length + 1) l.length 0 (l.length + 1) (by omega) (by omega)
  simpa using this
theorem fi_spec (q : E41 → Bool) : ∀ (l : List E41) (i : Nat), (fi q l i = -1 ∧ ∀ x ∈ l, q x = false) ∨ ∃ k, fi q l i = ((i + k : Nat) : Int) ∧ k < l.length ∧ (∀ x ∈ l.take k, q x = false) ∧ ∀ x, l[k]? = some x → q x = true
  | [], i => .inl ⟨rfl, by simp⟩
  | x :: r, i => by
    simp only [fi]
    by_cases hx : q x = true
    · rw [if_pos hx]
      exact .inr ⟨0, by simp, by simp, by simp, by simpa using hx⟩
    · rw [if_neg hx]
      rcases fi_spec q r (i + 1) with ⟨h1, h2⟩ | ⟨k, h1, h2, h3, h4⟩
      · exact .inl ⟨h1, fun y hy => by
          rcases List.mem_cons.1 hy with rfl | hy
          · simpa using hx
          · exact h2 y hy⟩
      · refine .inr ⟨k + 1, by rw [h1]; congr 1; omega, by simpa using h2, fun y hy => ?_, fun y hy => h4 y (by simpa using hy)⟩
        rw [List.take_succ_cons] at hy
        rcases List.mem_cons.1 hy with rfl | hy
        · simpa using hx
        · exact h3 y hy
/-! ### DeleteFunc: function 81 -/
theorem keep_step (q : E41 → Bool) {l L : List E41} {i j : Nat} {x : E41} (hj : l[j]? = some x) (hlen : L.length = l.length) (h1 : L.take i = (l.take j).filter (fun e => !(q e))) (h2 : L.drop j = l.drop j) (hij : i ≤ j) (hil : i < L.length) :
    (q x = true → L.take i = (l.take (j + 1)).filter (fun e => !(q e)) ∧ L.drop (j + 1) = l.drop (j + 1)) ∧
    (q x = false → (L.set i x).take (i + 1) = (l.take (j + 1)).filter (fun e => !(q e)) ∧ (L.set i x).drop (j + 1) = l.drop (j + 1)) := by
  obtain ⟨hjl, hjx⟩ := List.getElem?_eq_some_iff.1 hj
  have ht : l.take (j + 1) = l.take j ++ [x] := by rw [List.take_succ_eq_append_getElem hjl, hjx]
  have hd : L.drop (j + 1) = l.drop (j + 1) := by
    have := congrArg (List.drop 1) h2
    simpa [List.drop_drop] using this
  constructor
  · intro hq
    refine ⟨?_, hd⟩
    rw [ht, List.filter_append, ← h1]
    simp [hq]
  · intro hq
    refine ⟨?_, ?_⟩
    · rw [ht, List.filter_append, ← h1, List.take_succ_eq_append_getElem (by rw [List.length_set]; exact hil), List.getElem_set_self, List.take_set, List.set_eq_of_length_le (by rw [List.length_take]; omega)]
      simp [hq]
    · rw [List.drop_set_of_lt (by omega), hd]
theorem idx_len {l : List E41} {j : Nat} (h : j < l.length) : ∃ x, idx l (j : Int) = some x ∧ l[j]? = some x := ⟨l[j], idx_at (List.getElem?_eq_getElem h), List.getElem?_eq_getElem h⟩
set_option maxRecDepth 100000 in
theorem delete_calls {c : Cx} (l : List E41) (q : E41 → Bool) (f : FuncId) (caps : Array Value) (A : Option Addr) (cap : Nat) (ba : Bs) (w0 : World) (hi0 : Inv c ba w0) (own : Own enc41 7 41 l A cap ba) (hq : PredAt Try.prog c enc41 q f caps) (hb : l.length < 4611686018427387904) :
    Calls Try.prog 81 #[.slice A l.length cap, .func (.func f) #[] caps] w0 (fun e w' => ∃ A' cp' ba', e = .returned (.slice A' (l.filter (fun e => !(q e))).length cp') ∧ Own enc41 7 41 (l.filter (fun e => !(q e))) A' cp' ba' ∧ Inv c ba' w') := by
  refine callsI (args := [.slice A l.length cap, .func (.func f) #[] caps]) hi0 Try.func81 rfl Try.ntmps81 (by kernel_rfl) ?_
  have hspot : ∀ a, A = some a → l ≠ [] → a.spot = none := by
    intro a ha hne
    cases own with
    | nil _ h => exact absurd h hne
    | blk g _ _ _ => cases ha; rfl
  refine J.seq ?_
  refine J.plain ?_
  refine LL.op (.slice none 0 0) (by kernel_rfl) (fun w _ => by kernel_rfl) ?_
  refine LL.done (s' := [(0, .slice A l.length cap), (1, .func (.func f) #[] caps), (4, .slice none 0 0)]) [0, 1, 4] (by kernel_rfl) ?_
  refine NN.then ?_
  refine J.seq ?_
  refine J.plain ?_
  refine LL.op (.slice A l.length cap) (by kernel_rfl) (fun w _ => by kernel_rfl) ?_
  refine LL.op (.func (.func f) #[] caps) (by kernel_rfl) (fun w _ => by kernel_rfl) ?_
  refine LL.call 87 #[.slice A l.length cap, .func (.func f) #[] caps] (.int .i64 (fi q l 0)) (by kernel_rfl) (fun w => by kernel_rfl) (fun w hw => slices_IndexFunc.calls (l.length + 1) l q A cap f caps _ w (hq.at hw) (own.krow (pre := []) ok41 hw) (ix_eq l q (by omega))) ?_
  refine LL.op (.int .i64 (fi q l 0)) (by kernel_rfl) (fun w _ => by kernel_rfl) ?_
  refine LL.done (s' := [(0, .slice A l.length cap), (1, .func (.func f) #[] caps), (4, .slice none 0 0), (5, .int .i64 (fi q l 0))]) [0, 1, 4, 5] (by kernel_rfl) ?_
  refine NN.then ?_
  refine J.seq ?_
  refine J.seq ?_
  refine J.plain ?_
  refine LL.op (.int .i64 (fi q l 0)) (by kernel_rfl) (fun w _ => by kernel_rfl) ?_
  refine LL.op (.bool (fi q l 0 == -1)) (by kernel_rfl) (fun w _ => by kernel_rfl) ?_
  refine LL.done (s' := [(0, .slice A l.length cap), (1, .func (.func f) #[] caps), (4, .slice none 0 0), (5, .int .i64 (fi q l 0)), (12, .bool (fi q l 0 == -1))]) [0, 1, 4, 5, 12] (by kernel_rfl) ?_
  refine NN.then ?_
  rcases fi_spec q l 0 with ⟨e1, hall⟩ | ⟨k, e1, hk, hpre, hat⟩
  · -- nothing goes
    rw [e1]
    have hfil : l.filter (fun e => !(q e)) = l := List.filter_eq_self.2 fun x hx => by simp [hall x hx]
    rw [hfil]
    refine J.condT (b := true) rfl (by kernel_rfl) (by kernel_rfl) ?_
    refine J.seq ?_
    refine J.plain ?_
    refine LL.op (.slice A l.length cap) (by kernel_rfl) (fun w _ => by kernel_rfl) ?_
    refine LL.op (.slice A l.length cap) (by kernel_rfl) (fun w _ => by kernel_rfl) ?_
    refine LL.done (s' := [(4, .slice A l.length cap)]) [4] (by kernel_rfl) ?_
    refine NN.then ?_
    refine J.ret ?_
    refine NN.then_ret ?_
    exact NN.fin1 4 (.slice A l.length cap) (by kernel_rfl) (by kernel_rfl) (.inl rfl) (fun w hi => ⟨A, cap, ba, rfl, own, hi⟩)
  · -- element k is the first to go
    rw [e1, Nat.zero_add]
    have hne : l ≠ [] := by intro e; subst e; simp at hk
    have hsp := fun a ha => hspot a ha hne
    have hkk : ((k : Int) == -1) = false := by rw [beq_eq_false_iff_ne]; omega
    refine J.condF (b := ((k : Int) == -1)) hkk (by kernel_rfl) (by kernel_rfl) ?_
    refine J.skip ?_
    refine NN.then ?_
    refine J.seq ?_
    refine J.seq ?_
    refine J.plain ?_
    refine LL.op (.int .i64 (k : Int)) (by kernel_rfl) (fun w _ => by kernel_rfl) ?_
    refine LL.op (.int .i64 (IntKind.i64.wrap ((k : Int) + 1))) (by kernel_rfl) (fun w _ => by kernel_rfl) ?_
    refine LL.op (.int .i64 (IntKind.i64.wrap ((k : Int) + 1))) (by kernel_rfl) (fun w _ => by kernel_rfl) ?_
    have ew : IntKind.i64.wrap ((k : Int) + 1) = ((k + 1 : Nat) : Int) := by rw [wrap_in (by omega) (by omega)]; omega
    rw [ew]
    refine LL.done (s' := [(0, .slice A l.length cap), (1, .func (.func f) #[] caps), (4, .slice none 0 0), (5, .int .i64 (k : Int)), (6, .int .i64 ((k + 1 : Nat) : Int))]) [0, 1, 4, 5, 6] (by kernel_rfl) ?_
    refine NN.then ?_
    refine J.block ?_
    have hfirst : l.take k = (l.take (k + 1)).filter (fun e => !(q e)) := by
      obtain ⟨x, _, hx⟩ := idx_len hk
      have hqx := hat x hx
      obtain ⟨h, rfl⟩ := List.getElem?_eq_some_iff.1 hx
      rw [List.take_succ_eq_append_getElem h, List.filter_append]
      simp only [List.filter_cons, hqx, Bool.not_true, Bool.false_eq_true, if_false, List.filter_nil, List.append_nil]
      exact (List.filter_eq_self.2 fun y hy => by simp [hpre y hy]).symm
    refine J.loop (fun n_ s_ bs_ => ∃ (L : List E41) (i j : Nat) (bl : Bs), n_ = l.length - j ∧ i ≤ j ∧ i < l.length ∧ j ≤ l.length ∧ L.length = l.length ∧ L.take i = (l.take j).filter (fun e => !(q e)) ∧ L.drop j = l.drop j ∧ Own enc41 7 41 L A cap bl ∧
      s_ = [(0, .slice A L.length cap), (1, .func (.func f) #[] caps), (4, .slice none 0 0), (5, .int .i64 (i : Int)), (6, .int .i64 (j : Int))] ∧ bl = bs_) (l.length - (k + 1)) ⟨l, k, k + 1, ba, rfl, by omega, hk, by omega, rfl, hfirst, rfl, own, rfl, rfl⟩ ?_
    rintro n_ s_ bs_ ⟨L, i, j, bl, rfl, hij, hil, hjl, hL, h1, h2, ow, rfl, rfl⟩
    refine J.seq ?_
    refine J.seq ?_
    refine J.plain ?_
    refine LL.op (.int .i64 (j : Int)) (by kernel_rfl) (fun w _ => by kernel_rfl) ?_
    refine LL.op (.slice A L.length cap) (by kernel_rfl) (fun w _ => by kernel_rfl) ?_
    refine LL.op (.int .i64 (L.length : Int)) (by kernel_rfl) (fun w _ => by kernel_rfl) ?_
    refine LL.op (.bool (decide ((j : Int) < (L.length : Int)))) (by kernel_rfl) (fun w _ => by kernel_rfl) ?_
    refine LL.done (s' := [(0, .slice A L.length cap), (1, .func (.func f) #[] caps), (4, .slice none 0 0), (5, .int .i64 (i : Int)), (6, .int .i64 (j : Int)), (19, .bool (decide ((j : Int) < (L.length : Int))))]) [0, 1, 4, 5, 6, 19] (by kernel_rfl) ?_
    refine NN.then ?_
    rcases Bool.eq_false_or_eq_true (decide ((j : Int) < (L.length : Int))) with c1 | c1
    · have hjL : j < L.length := by have := of_decide_eq_true c1; omega
      obtain ⟨x, hx, hxl⟩ := idx_len hjL
      have hxl' : l[j]? = some x := by
        have := congrArg (fun z => z[0]?) h2
        simpa [hxl] using this.symm
      refine J.condT (b := decide ((j : Int) < (L.length : Int))) c1 (by kernel_rfl) (by kernel_rfl) ?_
      refine J.skip ?_
      refine NN.then ?_
      refine J.seq ?_
      refine J.block ?_
      refine J.seq ?_
      refine J.plain ?_
      refine LL.op (.slice A L.length cap) (by kernel_rfl) (fun w _ => by kernel_rfl) ?_
      refine LL.op (.int .i64 (j : Int)) (by kernel_rfl) (fun w _ => by kernel_rfl) ?_
      refine LL.op (.pointer (rp A ((j : Int).toNat * 7 + 0))) (by kernel_rfl) (idxO (pre := []) (ik := .i64) ok41 ow hx rfl (by kernel_rfl) (by kernel_rfl) (by kernel_rfl)) ?_
      refine LL.op (.agg (enc41 x).toArray) (by kernel_rfl) (ldO (pre := []) (off := 0) ok41 ow hx rfl (by kernel_rfl) (by kernel_rfl)) ?_
      refine LL.alloc 41 [.int .i64 0, .int .i64 0, .int .i64 0, .int .i64 0, .int .i64 0, .int .i64 0, .int .i64 0] (by kernel_rfl) rfl (by kernel_rfl) (fun g => ?_)
      refine LL.store 0 g 0 41 (.tmp 7) (.tmp 25) (enc41 x) (bs' := (g, cl (enc41 x) 41) :: bl) rfl (by kernel_rfl) rfl (by kernel_rfl) rfl (by kernel_rfl) ?_
      refine LL.done (s' := [(0, .slice A L.length cap), (1, .func (.func f) #[] caps), (4, .slice none 0 0), (5, .int .i64 (i : Int)), (6, .int .i64 (j : Int)), (7, .pointer (some ⟨g, 0, none⟩))]) [0, 1, 4, 5, 6, 7] (by kernel_rfl) ?_
      refine NN.then ?_
      refine J.seq ?_
      refine J.plain ?_
      refine LL.op (.func (.func f) #[] caps) (by kernel_rfl) (fun w _ => by kernel_rfl) ?_
      refine LL.op (.agg (enc41 x).toArray) (by kernel_rfl) (ld 0 g 0 rfl (by kernel_rfl) rfl (by kernel_rfl)) ?_
      refine LL.call f (#[.agg (enc41 x).toArray] ++ caps) (.bool (q x)) (by kernel_rfl) (run_pred hq rfl (by kernel_rfl) (by kernel_rfl)) (fun w hw => by have h_ := hq.run w hw.keep x; exact h_) ?_
      refine LL.op (.bool (!(q x))) (by kernel_rfl) (fun w _ => by kernel_rfl) ?_
      refine LL.done (s' := [(0, .slice A L.length cap), (1, .func (.func f) #[] caps), (4, .slice none 0 0), (5, .int .i64 (i : Int)), (6, .int .i64 (j : Int)), (7, .pointer (some ⟨g, 0, none⟩)), (29, .bool (!(q x)))]) [0, 1, 4, 5, 6, 7, 29] (by kernel_rfl) ?_
      refine NN.then ?_
      obtain ⟨st1, st2⟩ := keep_step q hxl' hL h1 h2 hij (by omega)
      have ewj : IntKind.i64.wrap ((j : Int) + 1) = ((j + 1 : Nat) : Int) := by rw [wrap_in (by omega) (by omega)]; omega
      rcases Bool.eq_false_or_eq_true (q x) with c2 | c2
      · obtain ⟨n1, n2⟩ := st1 c2
        refine J.condF (b := !(q x)) (by rw [c2]; rfl) (by kernel_rfl) (by kernel_rfl) ?_
        refine J.skip ?_
        refine NN.block_n ?_
        refine NN.then ?_
        refine J.plain ?_
        refine LL.op (.int .i64 (j : Int)) (by kernel_rfl) (fun w _ => by kernel_rfl) ?_
        refine LL.op (.int .i64 (IntKind.i64.wrap ((j : Int) + 1))) (by kernel_rfl) (fun w _ => by kernel_rfl) ?_
        refine LL.op (.int .i64 (IntKind.i64.wrap ((j : Int) + 1))) (by kernel_rfl) (fun w _ => by kernel_rfl) ?_
        rw [ewj]
        refine LL.done (s' := [(0, .slice A L.length cap), (1, .func (.func f) #[] caps), (4, .slice none 0 0), (5, .int .i64 (i : Int)), (6, .int .i64 ((j + 1 : Nat) : Int))]) [0, 1, 4, 5, 6] (by kernel_rfl) ?_
        exact NN.round' [0, 1, 4, 5, 6] (bs' := bl) (n' := l.length - (j + 1)) (by omega) (List.sublist_cons_self _ _) (by kernel_rfl) ⟨L, i, j + 1, bl, rfl, by omega, hil, by omega, hL, n1, n2, ow, rfl, rfl⟩
      · obtain ⟨n1, n2⟩ := st2 c2
        obtain ⟨x0, hx0, _⟩ := idx_len (l := L) (j := i) (by omega)
        refine J.condT (b := !(q x)) (by rw [c2]; rfl) (by kernel_rfl) (by kernel_rfl) ?_
        refine J.seq ?_
        refine J.plain ?_
        refine LL.op (.slice A L.length cap) (by kernel_rfl) (fun w _ => by kernel_rfl) ?_
        refine LL.op (.int .i64 (i : Int)) (by kernel_rfl) (fun w _ => by kernel_rfl) ?_
        refine LL.op (.agg (enc41 x).toArray) (by kernel_rfl) (ld 0 g 0 rfl (by kernel_rfl) rfl (by kernel_rfl)) ?_
        refine LL.op (.pointer (rp A ((i : Int).toNat * 7 + 0))) (by kernel_rfl) (idxO (pre := [(g, cl (enc41 x) 41)]) (ik := .i64) ok41 ow hx0 rfl (by kernel_rfl) (by kernel_rfl) (by kernel_rfl)) ?_
        refine LL.storeOwn (e := x) (t := 41) (x := .tmp 33) (y := .tmp 32) [(g, cl (enc41 x) 41)] ok41 ow hx0 (by kernel_rfl) rfl (by kernel_rfl) (by kernel_rfl) (by kernel_rfl) (fun bl2 ow2 => ?_)
        rw [Int.toNat_natCast] at ow2
        have hL2 : (L.set i x).length = L.length := List.length_set
        refine LL.done (s' := [(0, .slice A L.length cap), (1, .func (.func f) #[] caps), (4, .slice none 0 0), (5, .int .i64 (i : Int)), (6, .int .i64 (j : Int))]) [0, 1, 4, 5, 6] (by kernel_rfl) ?_
        refine NN.then ?_
        refine J.plain ?_
        have ewi : IntKind.i64.wrap ((i : Int) + 1) = ((i + 1 : Nat) : Int) := by rw [wrap_in (by omega) (by omega)]; omega
        refine LL.op (.int .i64 (i : Int)) (by kernel_rfl) (fun w _ => by kernel_rfl) ?_
        refine LL.op (.int .i64 (IntKind.i64.wrap ((i : Int) + 1))) (by kernel_rfl) (fun w _ => by kernel_rfl) ?_
        refine LL.op (.int .i64 (IntKind.i64.wrap ((i : Int) + 1))) (by kernel_rfl) (fun w _ => by kernel_rfl) ?_
        rw [ewi]
        refine LL.done (s' := [(0, .slice A L.length cap), (1, .func (.func f) #[] caps), (4, .slice none 0 0), (5, .int .i64 ((i + 1 : Nat) : Int)), (6, .int .i64 (j : Int))]) [0, 1, 4, 5, 6] (by kernel_rfl) ?_
        refine NN.block_n ?_
        refine NN.then ?_
        refine J.plain ?_
        refine LL.op (.int .i64 (j : Int)) (by kernel_rfl) (fun w _ => by kernel_rfl) ?_
        refine LL.op (.int .i64 (IntKind.i64.wrap ((j : Int) + 1))) (by kernel_rfl) (fun w _ => by kernel_rfl) ?_
        refine LL.op (.int .i64 (IntKind.i64.wrap ((j : Int) + 1))) (by kernel_rfl) (fun w _ => by kernel_rfl) ?_
        rw [ewj, ← hL2]
        refine LL.done (s' := [(0, .slice A (L.set i x).length cap), (1, .func (.func f) #[] caps), (4, .slice none 0 0), (5, .int .i64 ((i + 1 : Nat) : Int)), (6, .int .i64 ((j + 1 : Nat) : Int))]) [0, 1, 4, 5, 6] (by kernel_rfl) ?_
        by_cases hi1 : i + 1 < l.length
        · exact NN.round' [0, 1, 4, 5, 6] (bs' := bl2) (n' := l.length - (j + 1)) (by omega) (List.sublist_cons_self _ _) (by kernel_rfl) ⟨L.set i x, i + 1, j + 1, bl2, rfl, by omega, hi1, by omega, by rw [hL2, hL], n1, n2, ow2, rfl, rfl⟩
        · -- i + 1 = j + 1 = length: but element k has gone
          exfalso
          have hlen := congrArg List.length n1
          have hj1 : j + 1 = l.length := by omega
          rw [hj1, List.take_length, List.length_take, hL2] at hlen
          have hle : (l.filter (fun e => !(q e))).length < l.length := by
            obtain ⟨y, _, hy⟩ := idx_len hk
            exact List.length_filter_lt_length_iff_exists.2 ⟨y, List.mem_of_getElem? hy, by simp [hat y hy]⟩
          omega
    · have hjL : j = l.length := by have := of_decide_eq_false c1; omega
      subst hjL
      rw [List.take_length] at h1
      refine J.condF (b := decide ((l.length : Int) < (L.length : Int))) c1 (by kernel_rfl) (by kernel_rfl) ?_
      refine J.exit ?_
      refine NN.then_exit ?_
      refine NN.then_exit ?_
      refine NN.block_same ?_
      refine NN.then ?_
      refine J.seq ?_
      refine J.plain ?_
      have hicap : i ≤ cap := by
        cases ow with
        | nil _ h => subst h; simp at hL; omega
        | blk g _ h _ => omega
      refine LL.op (.slice A L.length cap) (by kernel_rfl) (fun w _ => by kernel_rfl) ?_
      refine LL.op (.int .i64 (i : Int)) (by kernel_rfl) (fun w _ => by kernel_rfl) ?_
      refine LL.op (.slice (if cap = i then A else rp A (i * 7)) (L.length - i) (cap - i)) (by kernel_rfl) (run_from (l := L) el26 rfl (by kernel_rfl) (by kernel_rfl) (by omega) hsp) ?_
      refine LL.clearOwn (i := i) (x := .tmp 38) (bytes := 56) [] ok41 el26 ow (by omega) (by kernel_rfl) rfl (by kernel_rfl) (by kernel_rfl) (fun bl2 ow2 => ?_)
      rw [h1] at ow2
      refine LL.done (s' := [(0, .slice A L.length cap), (1, .func (.func f) #[] caps), (4, .slice none 0 0), (5, .int .i64 (i : Int))]) [0, 1, 4, 5] (by kernel_rfl) ?_
      refine NN.then ?_
      refine J.seq ?_
      refine J.plain ?_
      refine LL.op (.slice A L.length cap) (by kernel_rfl) (fun w _ => by kernel_rfl) ?_
      refine LL.op (.int .i64 (i : Int)) (by kernel_rfl) (fun w _ => by kernel_rfl) ?_
      refine LL.op (.slice A i cap) (by kernel_rfl) (run_to (l := L) el26 rfl (by kernel_rfl) (by kernel_rfl) hicap hsp) ?_
      refine LL.op (.slice A i cap) (by kernel_rfl) (fun w _ => by kernel_rfl) ?_
      refine LL.done (s' := [(4, .slice A i cap)]) [4] (by kernel_rfl) ?_
      refine NN.then ?_
      refine J.ret ?_
      have hfl : (l.filter (fun e => !(q e))).length = i := by rw [← h1, List.length_take]; omega
      exact NN.fin1 4 (.slice A i cap) (by kernel_rfl) (by kernel_rfl) (.inl rfl) (fun w hi => ⟨A, cap, bl2, by rw [hfl], ow2, hi⟩)
/-! ### chosen: function 62 -/
/-- What a selection comes to: none, where no memory would bear the list. -/
def sel (q : E41 → Bool) (l : List E41) : Option (List E41) := if l.length * 56 ≤ 140737488355328 then some (l.filter q) else none
set_option maxRecDepth 100000 in
theorem chosen_calls (l : List E41) (q : E41 → Bool) (f : FuncId) (caps : Array Value) (A : Option Addr) (cp : Nat) (r : List E41) (w : World) (hq : PredAt Try.prog (Cx.start w) enc41 q f caps) (k : KRow (Cx.start w) enc41 7 l A) (h : sel q l = some r) :
    Calls Try.prog 62 #[.slice A l.length cp, .func (.func f) #[] caps] w (RetR w enc41 7 r (fun A_ c_ => .slice A_ r.length c_)) := by
  unfold sel at h
  split at h
  case isFalse => cases h
  rename_i hb
  cases h
  refine Go.Saw.calls (args := [.slice A l.length cp, .func (.func f) #[] caps]) Try.func62 rfl Try.ntmps62 (by kernel_rfl) ?_
  refine J.seq ?_
  refine J.plain ?_
  refine LL.box 44 (.tmp 1) [.func (.func f) #[] caps] (by kernel_rfl) rfl (by kernel_rfl) (fun g => ?_)
  refine LL.op (.slice none 0 0) (by kernel_rfl) (fun w _ => by kernel_rfl) ?_
  refine LL.done (s' := [(0, .slice A l.length cp), (3, .pointer (some ⟨g, 0, none⟩)), (4, .slice none 0 0)]) [0, 3, 4] (by kernel_rfl) ?_
  refine NN.then ?_
  refine J.seq ?_
  refine J.now (fun R F le hF hR => ?_)
  obtain ⟨o, ho, hcl⟩ := hR _ List.mem_cons_self
  have hg : R.heap[g]? = some (.cells [Value.func (.func f) #[] caps].toArray 44 (0, 0)) := by rw [ho, hcl]
  have hFg : F g := hF g ⟨_, List.mem_cons_self, rfl⟩
  have hq' := hq.le le
  have hn : PredAt Try.prog (⟨w, R, F⟩ : Cx) enc41 (fun e => !(q e)) 83 #[.pointer (some ⟨g, 0, none⟩)] := by
    refine ⟨fun args w => by kernel_rfl, fun w1 hw1 e => ?_⟩
    obtain ⟨e1, e2, e3, e4, e5, e6, e7⟩ := e
    refine defect_chosen_1.calls e1 e2 e3 e4 e5 e6 e7 q g f caps _ w1 ⟨hq'.call, fun w2 hw2 e => hq'.run w2 (fun b hb => ?_) e⟩ ((hw1 g hFg).2.trans hg) rfl
    have h1 := hw1 b hb
    have h2 := hw2 b h1.1
    exact ⟨h2.1, h2.2.trans h1.2⟩
  refine J.plain ?_
  refine LL.op (.slice A l.length cp) (by kernel_rfl) (fun w _ => by kernel_rfl) ?_
  refine LL.enter 82 #[.slice A l.length cp] (by kernel_rfl) (fun w => by kernel_rfl) (fun w1 hw1 => (clone_calls l A cp w1 ((k.le le).at hw1) hb).mono fun e w2 ⟨A1, c1, ba1, he, ow, hi2⟩ => ⟨_, he, ?_⟩)
  have hi2' : Saw.Inv (⟨w, R, F⟩ : Cx) ([] ++ ba1) w2 := hw1.join hi2
  intro a2 hf2
  refine (?_ : LL Try.prog _ (⟨w, R, F⟩ : Cx) _ _ ba1 _ _) a2 w2 hf2 hi2'
  refine LL.op (.func (.func 83) #[] #[.pointer (some ⟨g, 0, none⟩)]) (by kernel_rfl) (fun w _ => by kernel_rfl) ?_
  refine LL.enter 81 #[.slice A1 l.length c1, .func (.func 83) #[] #[.pointer (some ⟨g, 0, none⟩)]] (by kernel_rfl) (fun w => by kernel_rfl) (fun w3 hw3 => (delete_calls l (fun e => !(q e)) 83 _ A1 c1 ba1 w3 hw3 ow hn (by omega)).mono fun e w4 ⟨A2, c2, ba2, he, ow2, hi4⟩ => ⟨_, he, ?_⟩)
  have hfil : l.filter (fun e => !(!(q e))) = l.filter q := by congr 1; funext e; simp
  rw [hfil] at ow2 ⊢
  intro a4 hf4
  refine (?_ : LL Try.prog _ (⟨w, R, F⟩ : Cx) _ _ ba2 _ _) a4 w4 hf4 hi4
  refine LL.op (.slice A2 (l.filter q).length c2) (by kernel_rfl) (fun w _ => by kernel_rfl) ?_
  refine LL.done (s' := [(4, .slice A2 (l.filter q).length c2)]) [4] (by kernel_rfl) ?_
  refine NN.then ?_
  refine J.ret ?_
  exact NN.fin1 4 (.slice A2 (l.filter q).length c2) (by kernel_rfl) (by kernel_rfl) (.inl rfl) (fun w hi => hi.retOwn (pre := []) ok41 ow2 rfl)
/-! ### The two tests -/
def isKnot (e : E41) : Bool := if e.1 = 1 then true else e.1 == 2
theorem knots_calls (l : List E41) (A : Option Addr) (cp : Nat) (r : List E41) (w : World) (k : KRow (Cx.start w) enc41 7 l A) (h : sel isKnot l = some r) :
    Calls Try.prog 62 #[.slice A l.length cp, .func (.func 71) #[] #[]] w (RetR w enc41 7 r (fun A_ c_ => .slice A_ r.length c_)) :=
  chosen_calls l isKnot 71 #[] A cp r w ⟨fun args w => by kernel_rfl, fun w1 _ e => by
    obtain ⟨e1, e2, e3, e4, e5, e6, e7⟩ := e
    refine defect_Worst_1.calls e1 e2 e3 e4 e5 e6 e7 _ w1 ?_
    unfold defect_Worst_1.f isKnot
    split <;> rfl⟩ k h
def ofKind (kind : Int) (e : E41) : Bool := e.1 == kind
theorem kind_calls (l : List E41) (kind : Int) (g : Nat) (A : Option Addr) (cp : Nat) (r : List E41) (w : World) (hg : w.heap[g]? = some (.cells [.int .i64 kind].toArray 3 (0, 0))) (k : KRow (Cx.start w) enc41 7 l A) (h : sel (ofKind kind) l = some r) :
    Calls Try.prog 62 #[.slice A l.length cp, .func (.func 84) #[] #[.pointer (some ⟨g, 0, none⟩)]] w (RetR w enc41 7 r (fun A_ c_ => .slice A_ r.length c_)) :=
  chosen_calls l (ofKind kind) 84 _ A cp r w ⟨fun args w => by kernel_rfl, fun w1 hw1 e => by
    obtain ⟨e1, e2, e3, e4, e5, e6, e7⟩ := e
    exact defect_ofKind_1.calls e1 e2 e3 e4 e5 e6 e7 kind g _ w1 ((hw1 g (lt_of_some hg)).2.trans hg) rfl⟩ k h
/-! ### ofKind: function 63 -/
set_option maxRecDepth 100000 in
theorem ofKind_calls (kind : Int) (w : World) : Calls Try.prog 63 #[.int .i64 kind] w (fun e w' => ∃ g, e = .returned (.func (.func 84) #[] #[.pointer (some ⟨g, 0, none⟩)]) ∧ Below w.heap.size w w' ∧ w.heap.size ≤ g ∧ w'.heap[g]? = some (.cells [Value.int .i64 kind].toArray 3 (0, 0))) := by
  refine Go.Saw.calls (args := [.int .i64 kind]) Try.func63 rfl Try.ntmps63 (by kernel_rfl) ?_
  refine J.seq ?_
  refine J.plain ?_
  refine LL.box 3 (.tmp 0) [.int .i64 kind] (by kernel_rfl) rfl (by kernel_rfl) (fun g => ?_)
  refine LL.op .nilFunc (by kernel_rfl) (fun w _ => by kernel_rfl) ?_
  refine LL.done (s' := [(1, .pointer (some ⟨g, 0, none⟩)), (2, .nilFunc)]) [1, 2] (by kernel_rfl) ?_
  refine NN.then ?_
  refine J.seq ?_
  refine J.plain ?_
  refine LL.op (.func (.func 84) #[] #[.pointer (some ⟨g, 0, none⟩)]) (by kernel_rfl) (fun w _ => by kernel_rfl) ?_
  refine LL.op (.func (.func 84) #[] #[.pointer (some ⟨g, 0, none⟩)]) (by kernel_rfl) (fun w _ => by kernel_rfl) ?_
  refine LL.done (s' := [(2, .func (.func 84) #[] #[.pointer (some ⟨g, 0, none⟩)])]) [2] (by kernel_rfl) ?_
  refine NN.then ?_
  refine J.ret ?_
  exact NN.fin1 2 _ (by kernel_rfl) (by kernel_rfl) (.inl rfl) (fun w hi => ⟨g, rfl, hi.below, (hi.blk _ List.mem_cons_self).1.1, hi.cells (i := 0) rfl⟩)
section
variable {ops : Array Oper} {c : Cx} {N : Nat} {s : S} {bs : Bs} {o : Oper} {rest : List Oper} {Q : Exit → Act → World → Prop}
theorem LL.ofKind (kind : Int) (hfit : fit ops N s o = true) (hr : ∀ w, (execOp (ev s) o).run Try.prog w = .ok (.enter 63 #[.int .i64 kind]) w)
    (h : ∀ R F g, Le c ⟨c.W, R, F⟩ → F g → R.heap[g]? = some (.cells [Value.int .i64 kind].toArray 3 (0, 0)) → LL Try.prog ops ⟨c.W, R, F⟩ N (put o.dst (.func (.func 84) #[] #[.pointer (some ⟨g, 0, none⟩)]) s) bs Q rest) : LL Try.prog ops c N s bs Q (o :: rest) :=
  LL.enter 63 #[.int .i64 kind] hfit hr fun w hw => (ofKind_calls kind w).mono fun e w' ⟨g, he, hb, hg1, hg2⟩ => ⟨_, he, fun a hf => by
    have hi' := hw.call hb
    exact h w' _ g hi'.now.2 ⟨lt_of_some hg2, fun x hx e => by have := hw.lt hx; omega⟩ hg2 a w' hf hi'.now.1⟩
end
end Go.Proofs.Ytfjbhmpnmpphoaa

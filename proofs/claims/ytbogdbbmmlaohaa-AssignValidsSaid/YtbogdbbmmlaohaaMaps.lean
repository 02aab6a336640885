/- Maps: a map from whole numbers in memory, as a function; reading, writing and deleting an entry. -/
import Derived.Test.YtbogdbbmmlaohaaRows2
namespace Go.Saw
set_option linter.unusedVariables false
set_option linter.unusedSimpArgs false
open Go.RowKit

section
variable {α : Type}
def asc : List (Int × α) → Int → Option α
  | [], _ => none
  | p :: r, n => if p.1 = n then some p.2 else asc r n
def upd (T : Int → Option α) (b : Int) (x : α) : Int → Option α := fun y => if y = b then some x else T y
def del (T : Int → Option α) (b : Int) : Int → Option α := fun y => if y = b then none else T y
def setL (n : Int) (v : α) : List (Int × α) → List (Int × α)
  | [] => []
  | p :: r => if p.1 = n then (n, v) :: r else p :: setL n v r
def delL (n : Int) : List (Int × α) → List (Int × α)
  | [] => []
  | p :: r => if p.1 = n then r else p :: delL n r
def fnd (enc : α → Value) (n : Int) : List (Int × α) → Nat → Option (Nat × Value)
  | [], _ => none
  | p :: r, i => if p.1 = n then some (i, enc p.2) else fnd enc n r (i + 1)
def NoDup (l : List (Int × α)) : Prop := l.Pairwise fun p q => p.1 ≠ q.1
def Lay (enc : α → Value) (es : List MapEntry) (l : List (Int × α)) : Prop := es.map (fun e => (e.key, e.val)) = l.map (fun p => (Value.int .i64 p.1, enc p.2))
/-- A map of whole numbers, of which a function tells the entries. -/
def mpO (enc : α → Value) (T : Int → Option α) : Obj → Prop := fun o => ∃ es clock l, o = .map es clock ∧ Lay enc es.toList l ∧ NoDup l ∧ asc l = T
theorem Lay.nil {enc : α → Value} {es : List MapEntry} (h : Lay enc es []) : es = [] := by
  unfold Lay at h; simpa using h
theorem Lay.cons {enc : α → Value} {es : List MapEntry} {p : Int × α} {r : List (Int × α)} (h : Lay enc es (p :: r)) : ∃ e es', es = e :: es' ∧ e.key = .int .i64 p.1 ∧ e.val = enc p.2 ∧ Lay enc es' r := by
  unfold Lay at h ⊢
  cases es with
  | nil => simp at h
  | cons e es' =>
    simp only [List.map_cons, List.cons.injEq, Prod.mk.injEq] at h
    exact ⟨e, es', rfl, h.1.1, h.1.2, h.2⟩
theorem find_now {enc : α → Value} {n : Int} : ∀ {l : List (Int × α)} {es : List MapEntry} (i : Nat), Lay enc es l → Instr.findNow (.int .i64) (.int .i64 n) es i = some (fnd enc n l i)
  | [], es, i, h => by
    obtain rfl := h.nil
    rfl
  | p :: r, es, i, h => by
    obtain ⟨e, es', rfl, hk, hv, h'⟩ := h.cons
    have ih := find_now (n := n) (i + 1) h'
    simp only [Instr.findNow, hk, Instr.sameNow, fnd, hv, if_true]
    by_cases e1 : p.1 = n
    · have : (n == p.1) = true := by simp [e1]
      rw [this, if_pos e1]
    · have : (n == p.1) = false := by simp; exact fun h => e1 h.symm
      rw [this, if_neg e1]
      exact ih
theorem fnd_none {enc : α → Value} {n : Int} : ∀ {l : List (Int × α)} {i : Nat}, fnd enc n l i = none → asc l n = none ∧ ∀ p ∈ l, p.1 ≠ n
  | [], _, _ => ⟨rfl, by simp⟩
  | p :: r, i, h => by
    simp only [fnd] at h
    by_cases e1 : p.1 = n
    · rw [if_pos e1] at h; cases h
    · rw [if_neg e1] at h
      obtain ⟨h1, h2⟩ := fnd_none h
      refine ⟨by simp only [asc]; rw [if_neg e1]; exact h1, fun q hq => ?_⟩
      rcases List.mem_cons.1 hq with rfl | hq
      · exact e1
      · exact h2 q hq
theorem fnd_some {enc : α → Value} {n : Int} : ∀ {l : List (Int × α)} {i j : Nat} {v : Value}, fnd enc n l i = some (j, v) → ∃ x, asc l n = some x ∧ v = enc x
  | [], _, _, _, h => by cases h
  | p :: r, i, j, v, h => by
    simp only [fnd] at h
    simp only [asc]
    by_cases e1 : p.1 = n
    · rw [if_pos e1] at h ⊢; cases h; exact ⟨_, rfl, rfl⟩
    · rw [if_neg e1] at h ⊢; exact fnd_some h
theorem fnd_le {enc : α → Value} {n : Int} : ∀ {l : List (Int × α)} {i j : Nat} {v : Value}, fnd enc n l i = some (j, v) → i ≤ j
  | [], _, _, _, h => by cases h
  | p :: r, i, j, v, h => by
    simp only [fnd] at h
    by_cases e1 : p.1 = n
    · rw [if_pos e1] at h; cases h; exact Nat.le_refl _
    · rw [if_neg e1] at h; have := fnd_le h; omega
theorem asc_set {n : Int} {v : α} : ∀ {l : List (Int × α)} {x : α}, asc l n = some x → asc (setL n v l) = upd (asc l) n v
  | [], _, h => by cases h
  | p :: r, x, h => by
    funext y
    simp only [asc] at h
    by_cases e1 : p.1 = n
    · simp only [setL, if_pos e1, asc, upd]
      by_cases e2 : y = n
      · rw [if_pos e2.symm, if_pos e2]
      · rw [if_neg (fun e => e2 e.symm), if_neg e2, if_neg (fun e => e2 (e.symm.trans e1))]
    · rw [if_neg e1] at h
      have ih := congrFun (asc_set (v := v) h) y
      simp only [setL, if_neg e1, asc, upd] at ih ⊢
      rw [ih]
      by_cases e2 : y = n
      · rw [if_pos e2, if_pos e2, if_neg (fun e => e1 (e.trans e2))]
      · rw [if_neg e2, if_neg e2]
theorem asc_out {n : Int} : ∀ {l : List (Int × α)}, (∀ p ∈ l, p.1 ≠ n) → asc l n = none
  | [], _ => rfl
  | p :: r, h => by
    simp only [asc]
    rw [if_neg (h p List.mem_cons_self)]
    exact asc_out fun q hq => h q (List.mem_cons_of_mem _ hq)
theorem asc_del {n : Int} : ∀ {l : List (Int × α)}, NoDup l → asc (delL n l) = del (asc l) n
  | [], _ => by funext y; simp [delL, asc, del]
  | p :: r, h => by
    obtain ⟨h1, h2⟩ := List.pairwise_cons.1 h
    funext y
    by_cases e1 : p.1 = n
    · simp only [delL, if_pos e1, asc, del]
      by_cases e2 : y = n
      · rw [if_pos e2, e2]; exact asc_out fun q hq e => h1 q hq (e1.trans e.symm)
      · rw [if_neg e2, if_neg (fun e => e2 (e.symm.trans e1))]
    · have ih := congrFun (asc_del (n := n) h2) y
      simp only [delL, if_neg e1, asc, del] at ih ⊢
      rw [ih]
      by_cases e2 : y = n
      · rw [if_pos e2, if_neg (fun e => e1 (e.trans e2))]; 
        rw [if_pos e2]
      · rw [if_neg e2, if_neg e2]
theorem setL_mem {n : Int} {v : α} : ∀ {l : List (Int × α)} {q : Int × α}, q ∈ setL n v l → q.1 = n ∨ q ∈ l
  | [], q, h => by cases h
  | p :: r, q, h => by
    simp only [setL] at h
    by_cases e1 : p.1 = n
    · rw [if_pos e1] at h
      rcases List.mem_cons.1 h with rfl | h
      · exact .inl rfl
      · exact .inr (List.mem_cons_of_mem _ h)
    · rw [if_neg e1] at h
      rcases List.mem_cons.1 h with rfl | h
      · exact .inr List.mem_cons_self
      · rcases setL_mem h with h | h
        · exact .inl h
        · exact .inr (List.mem_cons_of_mem _ h)
theorem NoDup.set {n : Int} {v : α} : ∀ {l : List (Int × α)}, NoDup l → NoDup (setL n v l)
  | [], _ => List.Pairwise.nil
  | p :: r, h => by
    obtain ⟨h1, h2⟩ := List.pairwise_cons.1 h
    simp only [setL]
    by_cases e1 : p.1 = n
    · rw [if_pos e1]
      exact List.pairwise_cons.2 ⟨fun q hq => by rw [← e1]; exact h1 q hq, h2⟩
    · rw [if_neg e1]
      refine List.pairwise_cons.2 ⟨fun q hq => ?_, NoDup.set h2⟩
      rcases setL_mem hq with h | h
      · rw [h]; exact e1
      · exact h1 q h
theorem delL_mem {n : Int} : ∀ {l : List (Int × α)} {q : Int × α}, q ∈ delL n l → q ∈ l
  | [], q, h => by cases h
  | p :: r, q, h => by
    simp only [delL] at h
    by_cases e1 : p.1 = n
    · rw [if_pos e1] at h; exact List.mem_cons_of_mem _ h
    · rw [if_neg e1] at h
      rcases List.mem_cons.1 h with rfl | h
      · exact List.mem_cons_self
      · exact List.mem_cons_of_mem _ (delL_mem h)
theorem NoDup.del {n : Int} : ∀ {l : List (Int × α)}, NoDup l → NoDup (delL n l)
  | [], _ => List.Pairwise.nil
  | p :: r, h => by
    obtain ⟨h1, h2⟩ := List.pairwise_cons.1 h
    simp only [delL]
    by_cases e1 : p.1 = n
    · rw [if_pos e1]; exact h2
    · rw [if_neg e1]
      exact List.pairwise_cons.2 ⟨fun q hq => h1 q (delL_mem hq), NoDup.del h2⟩
theorem Lay.set {enc : α → Value} {n : Int} {v : α} : ∀ {l : List (Int × α)} {es : List MapEntry} {i j : Nat} {x : Value}, Lay enc es l → fnd enc n l i = some (j, x) →
    (∃ e, es[j - i]? = some e ∧ e.key = .int .i64 n) ∧ Lay enc (es.modify (j - i) fun e => { e with key := .int .i64 n, val := enc v }) (setL n v l)
  | [], _, _, _, _, _, h => by cases h
  | p :: r, es, i, j, x, hl, h => by
    obtain ⟨e, es', rfl, hk, hv, h'⟩ := hl.cons
    simp only [fnd] at h
    by_cases e1 : p.1 = n
    · rw [if_pos e1] at h
      cases h
      simp only [setL, if_pos e1, Nat.sub_self]
      refine ⟨⟨e, rfl, by rw [hk, e1]⟩, ?_⟩
      unfold Lay at h' ⊢
      simp [h']
    · rw [if_neg e1] at h
      have hj := fnd_le h
      obtain ⟨⟨e', h1, h2⟩, h3⟩ := Lay.set (v := v) h' h
      obtain ⟨k, rfl⟩ : ∃ k, j = i + 1 + k := ⟨j - (i + 1), by omega⟩
      rw [show i + 1 + k - (i + 1) = k by omega] at h1 h3
      rw [show i + 1 + k - i = k + 1 by omega]
      refine ⟨⟨e', by simpa using h1, h2⟩, ?_⟩
      simp only [setL, if_neg e1]
      unfold Lay at h3 ⊢
      simp [hk, hv, h3]
theorem Lay.del {enc : α → Value} {n : Int} : ∀ {l : List (Int × α)} {es : List MapEntry} {i j : Nat} {x : Value}, Lay enc es l → fnd enc n l i = some (j, x) →
    j - i < es.length ∧ Lay enc (es.eraseIdx (j - i)) (delL n l)
  | [], _, _, _, _, _, h => by cases h
  | p :: r, es, i, j, x, hl, h => by
    obtain ⟨e, es', rfl, hk, hv, h'⟩ := hl.cons
    simp only [fnd] at h
    by_cases e1 : p.1 = n
    · rw [if_pos e1] at h
      cases h
      simp only [delL, if_pos e1, Nat.sub_self]
      refine ⟨by simp, ?_⟩
      unfold Lay at h' ⊢
      simp [h']
    · rw [if_neg e1] at h
      have hj := fnd_le h
      obtain ⟨h1, h3⟩ := Lay.del h' h
      obtain ⟨k, rfl⟩ : ∃ k, j = i + 1 + k := ⟨j - (i + 1), by omega⟩
      rw [show i + 1 + k - (i + 1) = k by omega] at h1 h3
      rw [show i + 1 + k - i = k + 1 by omega]
      refine ⟨by simpa using h1, ?_⟩
      simp only [delL, if_neg e1]
      unfold Lay at h3 ⊢
      simp [hk, hv, h3]
end

section
variable {P : Program} {ops : Array Oper} {c : Cx} {N : Nat} {s : S} {bs : Bs} {o : Oper} {rest : List Oper} {Q : Exit → Act → World → Prop}
variable {α : Type} {enc : α → Value}
/-- A map type from ints, whose elements' zero value is known. -/
structure MapTy (P : Program) (t : TypeId) (z : Value) : Prop where
  h : ∃ k e i, P.underlying t = some (.map k e) ∧ P.underlying k = some (.int .i64) ∧ P.info? e = some i ∧ i.zero = some z
theorem run_check (b : Bool) {k : TypeId} (hk : P.underlying k = some (.int .i64)) (n : Int) (w : World) : (Instr.checkKey b 10000 k (.int .i64 n)).run P w = .ok () w := by
  have : ∀ m, (Instr.checkKey b (m + 1) k (.int .i64 n)).run P w = .ok () w := fun m => by simp [Instr.checkKey, run_underlying hk]
  exact this 9999
theorem run_findKey {k : TypeId} (hk : P.underlying k = some (.int .i64)) (n : Int) {es : List MapEntry} {l : List (Int × α)} (hl : Lay enc es l) (w : World) : (Instr.findKey k (.int .i64 n) es).run P w = .ok (fnd enc n l 0) w := by
  simp [Instr.findKey, run_underlying hk, find_now 0 hl]
theorem run_getObj {r : Nat} {es : Array MapEntry} {ck : Nat} {w : World} (h : w.heap[r]? = some (.map es ck)) : (getObj r).run P w = .ok (.map es ck) w := by
  simp [getObj, Sem.run, h]
theorem run_lookup {t r : Nat} {z : Value} {T : Int → Option α} {w : World} {ob : Obj} (ht : MapTy P t z) (h : w.heap[r]? = some ob) (hm : mpO enc T ob) (n : Int) (ck : Bool) :
    (Instr.lookup t (.map (some r)) (.int .i64 n) ck).run P w = .ok (if ck then .tuple #[(T n).elim z enc, .bool (T n).isSome] else (T n).elim z enc) w := by
  obtain ⟨k, e, i, hu, hk, hi, hz⟩ := ht.h
  obtain ⟨es, clock, l, rfl, hl, hd, rfl⟩ := hm
  have hzr : (zeroValue e).run P w = .ok z w := by simp [zeroValue, typeInfo, hi, hz, program, Sem.run]
  unfold Instr.lookup
  simp only [Sem.run_bind, run_underlying hu, Result.andThen_ok, run_getObj h, Sem.run_pure, run_check _ hk, run_findKey hk n hl]
  cases hf : fnd enc n l 0 with
  | none =>
    obtain ⟨h1, _⟩ := fnd_none hf
    simp only [h1, Sem.run_bind, hzr, Result.andThen_ok, Sem.run_pure, Option.elim, Option.isSome]
  | some jv =>
    obtain ⟨j, v⟩ := jv
    obtain ⟨x, h1, rfl⟩ := fnd_some hf
    simp only [h1, Sem.run_bind, Result.andThen_ok, Sem.run_pure, Option.elim, Option.isSome]
theorem run_setObj {r : Nat} {es : Array MapEntry} {ck : Nat} {ob' : Obj} {w : World} (h : w.heap[r]? = some (.map es ck)) : (setObj r ob').run P w = .ok () { w with heap := w.heap.set! r ob' } := by
  simp [setObj, Sem.run, h]
/-- What stands of a world when one block of it is another. -/
structure Turned (w w' : World) (g : Nat) (ob : Obj) : Prop where
  os : w'.os = w.os
  tape : w'.tape = w.tape
  out : w'.output = w.output
  size : w'.heap.size = w.heap.size
  rest : ∀ k, k ≠ g → w'.heap[k]? = w.heap[k]?
  blk : w'.heap[g]? = some ob
theorem turned_set {w : World} {g : Nat} {ob ob' : Obj} (h : w.heap[g]? = some ob) : Turned w { w with heap := w.heap.set! g ob' } g ob' :=
  ⟨rfl, rfl, rfl, by simp, fun k hk => by
    show (w.heap.setIfInBounds g ob')[k]? = _
    exact Array.getElem?_setIfInBounds_ne (fun e => hk e.symm), by simp [lt_of_some h]⟩
theorem run_keyStays (n : Int) (w : World) : (Instr.keyThatStays (.int .i64 n) (.int .i64 n)).run P w = .ok (.int .i64 n) w := by
  have : Instr.sameBits 10000 (.int .i64 n) (.int .i64 n) = true := by
    have : ∀ m, Instr.sameBits m (.int .i64 n) (.int .i64 n) = true := fun m => by cases m <;> simp [Instr.sameBits]
    exact this _
  unfold Instr.keyThatStays
  rw [if_pos this]; rfl
theorem run_mapUpdate {t r : Nat} {z : Value} {T : Int → Option α} {w : World} {ob : Obj} (ht : MapTy P t z) (h : w.heap[r]? = some ob) (hm : mpO enc T ob) (n : Int) (v : α) :
    ∃ w' ob', (Instr.mapUpdate t (.map (some r)) (.int .i64 n) (enc v)).run P w = .ok () w' ∧ Turned w w' r ob' ∧ mpO enc (upd T n v) ob' := by
  obtain ⟨k, e, i, hu, hk, hi, hz⟩ := ht.h
  obtain ⟨es, clock, l, rfl, hl, hd, rfl⟩ := hm
  unfold Instr.mapUpdate
  simp only [Sem.run_bind, run_underlying hu, Result.andThen_ok, run_getObj h, Sem.run_pure, run_check _ hk, run_findKey hk n hl]
  cases hf : fnd enc n l 0 with
  | none =>
    obtain ⟨h1, h2⟩ := fnd_none hf
    simp only [run_setObj h]
    refine ⟨_, _, rfl, turned_set h, _, _, l ++ [(n, v)], rfl, ?_, ?_, ?_⟩
    · unfold Lay at hl ⊢
      simp [hl]
    · unfold NoDup at hd ⊢
      exact List.pairwise_append.2 ⟨hd, by simp, fun a ha b hb => by simp at hb; subst hb; exact h2 a ha⟩
    · funext y
      have : ∀ (l : List (Int × α)), (∀ p ∈ l, p.1 ≠ n) → asc (l ++ [(n, v)]) y = upd (asc l) n v y := by
        intro l hl
        induction l with
        | nil => simp only [List.nil_append, asc, upd]; by_cases e : n = y <;> simp [e, eq_comm]
        | cons p r ih =>
          simp only [List.cons_append, asc, upd] at ih ⊢
          rw [ih fun q hq => hl q (List.mem_cons_of_mem _ hq)]
          have := hl p List.mem_cons_self
          by_cases e : y = n
          · rw [if_pos e, if_pos e, if_neg (fun e' => this (e'.trans e))]
          · rw [if_neg e, if_neg e]
      exact this l h2
  | some jv =>
    obtain ⟨j, x⟩ := jv
    obtain ⟨x', h1, rfl⟩ := fnd_some hf
    obtain ⟨⟨e', he1, he2⟩, he3⟩ := hl.set (v := v) hf
    rw [Nat.sub_zero] at he1 he3
    have hek : ((es[j]?).map (·.key)).getD (Value.int .i64 n) = .int .i64 n := by
      have : es[j]? = some e' := by simpa using he1
      rw [this]; exact he2
    simp only [Sem.run_bind, hek, run_keyStays, Result.andThen_ok, run_setObj h]
    refine ⟨_, _, rfl, turned_set h, _, _, _, rfl, ?_, hd.set, asc_set h1⟩
    simpa using he3
theorem run_delete {t u r : Nat} {z : Value} {T : Int → Option α} {w : World} {ob : Obj} {ts : Array TypeId} (ht : MapTy P t z) (hts : ts[0]? = some t) (h : w.heap[r]? = some ob) (hm : mpO enc T ob) (n : Int) :
    ∃ w' ob', (Builtin.delete_ ts u #[.map (some r), .int .i64 n]).run P w = .ok (.tuple #[]) w' ∧ Turned w w' r ob' ∧ mpO enc (del T n) ob' := by
  obtain ⟨k, e, i, hu, hk, hi, hz⟩ := ht.h
  obtain ⟨es, clock, l, rfl, hl, hd, rfl⟩ := hm
  unfold Builtin.delete_
  simp only [hts, Sem.run_bind, run_underlying hu, Result.andThen_ok, run_getObj h, Sem.run_pure, run_check _ hk, run_findKey hk n hl, List.getElem?_toArray, List.getElem?_cons_zero, List.getElem?_cons_succ]
  cases hf : fnd enc n l 0 with
  | none =>
    obtain ⟨h1, h2⟩ := fnd_none hf
    simp only [Sem.run_bind, run_setObj h, Result.andThen_ok, Sem.run_pure]
    refine ⟨_, _, rfl, turned_set h, _, _, l, rfl, hl, hd, ?_⟩
    funext y
    unfold del
    by_cases e : y = n
    · rw [if_pos e, e, h1]
    · rw [if_neg e]
  | some jv =>
    obtain ⟨j, x⟩ := jv
    obtain ⟨he1, he3⟩ := hl.del hf
    rw [Nat.sub_zero] at he1 he3
    simp only [Sem.run_bind, run_setObj h, Result.andThen_ok, Sem.run_pure]
    refine ⟨_, _, rfl, turned_set h, _, _, _, rfl, ?_, hd.del, asc_del hd⟩
    have hlt : j < es.size := by simpa using he1
    unfold Array.eraseIdxIfInBounds
    rw [dif_pos hlt]
    simpa using he3
end
end Go.Saw

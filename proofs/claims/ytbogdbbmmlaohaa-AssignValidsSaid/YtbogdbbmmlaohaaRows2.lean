/- Rows: lists in memory. What is known of a slice that is read; what a call that makes one tells; literals; appends. -/
import Derived.Test.YtbogdbbmmlaohaaAbs
import Derived.Laws.AppendOwn
import Derived.Laws.OwnMore
import Derived.Great.BuildSlice
import Derived.Deep.Upon
import Derived.Laws.StructEq
import Derived.Laws.Slices
import Derived.Laws.CopyRow
namespace Go.Saw
set_option linter.unusedVariables false
open Go.RowKit

section
variable {P : Program} {ops : Array Oper} {c : Cx} {N : Nat} {s : S} {bs : Bs} {o : Oper} {rest : List Oper} {Q : Exit → Act → World → Prop}
variable {E : Type} {enc : E → List Value} {m : Nat} {l : List E} {A : Option Addr}

/-- An address, so many cells further on. -/
def rp : Option Addr → Nat → Option Addr
  | some a, k => some ⟨a.block, a.off + k, none⟩
  | none, _ => none
/-- The element at an index that Go takes. -/
def idx (l : List E) (i : Int) : Option E := if i < 0 then none else l[i.toNat]?
/-- What is known of a list in memory that is kept. -/
def KRow (c : Cx) (enc : E → List Value) (m : Nat) (l : List E) (A : Option Addr) : Prop :=
  ∀ (i : Nat) e, l[i]? = some e → (enc e).length = m ∧ ∃ b q, A = some ⟨b, q, none⟩ ∧ c.F b ∧ ∀ j v, (enc e)[j]? = some v → c.R.cell? ⟨b, q + i * m + j, none⟩ = some v
/-- Whatever the first keeps the second keeps too. -/
structure Le (c c' : Cx) : Prop where
  W : c'.W = c.W
  F : ∀ b, c.F b → c'.F b
  R : ∀ b, c.F b → c'.R.heap[b]? = c.R.heap[b]?
theorem Le.refl (c : Cx) : Le c c := ⟨rfl, fun _ h => h, fun _ _ => rfl⟩
theorem Le.trans {c c' c'' : Cx} (h : Le c c') (h' : Le c' c'') : Le c c'' := ⟨h'.W.trans h.W, fun b hb => h'.F b (h.F b hb), fun b hb => (h'.R b (h.F b hb)).trans (h.R b hb)⟩
theorem Inv.back {c c' : Cx} {w : World} (h : Inv c' bs w) (le : Le c c') : Inv c bs w :=
  ⟨le.W ▸ h.below, fun b hb => ⟨(h.keep b (le.F b hb)).1, (h.keep b (le.F b hb)).2.trans (le.R b hb)⟩, fun x hx => ⟨⟨le.W ▸ (h.blk x hx).1.1, fun hF => (h.blk x hx).1.2 (le.F _ hF)⟩, (h.blk x hx).2⟩, h.apart⟩
theorem cell_of_block {w w' : World} {a : Addr} (h : w'.heap[a.block]? = w.heap[a.block]?) : w'.cell? a = w.cell? a := World.cell?_of_block h
theorem KRow.le {c c' : Cx} (k : KRow c enc m l A) (h : Le c c') : KRow c' enc m l A := fun i e hi => by
  obtain ⟨h1, b, q, hA, hF, hc⟩ := k i e hi
  exact ⟨h1, b, q, hA, h.F b hF, fun j v hv => (cell_of_block (a := ⟨b, q + i * m + j, none⟩) (h.R b hF)).trans (hc j v hv)⟩
/-- What is known, told of a world. -/
theorem KRow.at {w : World} (k : KRow c enc m l A) (hi : Inv c bs w) : KRow (Cx.start w) enc m l A := fun i e he => by
  obtain ⟨h1, b, q, hA, hF, hc⟩ := k i e he
  exact ⟨h1, b, q, hA, (hi.keep b hF).1, fun j v hv => (cell_of_block (a := ⟨b, q + i * m + j, none⟩) (hi.keep b hF).2).trans (hc j v hv)⟩
theorem KRow.nil : KRow c enc m ([] : List E) A := fun i e he => by simp at he
/-- A list in memory that a call has made. -/
structure NRow (w w' : World) (enc : E → List Value) (m : Nat) (l : List E) (A : Option Addr) : Prop where
  row : KRow (Cx.start w') enc m l A
  new : ∀ b q, A = some ⟨b, q, none⟩ → l ≠ [] → w.heap.size ≤ b
/-- The post of a function whose result bears a list. -/
def RetR (w : World) (enc : E → List Value) (m : Nat) (l : List E) (val : Option Addr → Nat → Value) : Ending → World → Prop :=
  fun e w' => ∃ A cp, e = .returned (val A cp) ∧ Below w.heap.size w w' ∧ NRow w w' enc m l A
theorem NRow.nil {w w' : World} : NRow w w' enc m ([] : List E) A := ⟨KRow.nil, fun _ _ _ h => absurd rfl h⟩
theorem Inv.retNil {w : World} (h : Inv c bs w) {val : Option Addr → Nat → Value} {v : Value} (e : v = val none 0) : RetR c.W enc m ([] : List E) val (.returned v) w := ⟨none, 0, by rw [e], h.below, NRow.nil⟩

/-! ### Reading -/
theorem KRow.addr (k : KRow c enc m l A) {i : Int} {e : E} (hi : idx l i = some e) : ∃ b q, A = some ⟨b, q, none⟩ ∧ 0 ≤ i ∧ i < (l.length : Int) := by
  unfold idx at hi
  split at hi
  · cases hi
  · obtain ⟨_, b, q, hA, _⟩ := k _ _ hi
    have := (List.getElem?_eq_some_iff.1 hi).1
    exact ⟨b, q, hA, by omega, by omega⟩
/-- The size of a slice's elements. -/
def elemOf (P : Program) (t : TypeId) : Option Nat := match P.underlying t with | some (.slice e) => (P.info? e).map (·.size) | _ => none
theorem idxR {i : Int} {e : E} {t cp : Nat} {x y : Operand} {ik : IntKind} (k : KRow c enc m l A) (hi : idx l i = some e) (ho : o.op = .indexAddr t x y) (hx : ev s x = .slice A l.length cp) (hy : ev s y = .int ik i) (hm : elemOf P t = some m) :
    ∀ w, Inv c bs w → (execOp (ev s) o).run P w = .ok (.value (.pointer (rp A (i.toNat * m + 0)))) w := fun w _ => by
  obtain ⟨b, q, rfl, h0, h1⟩ := k.addr hi
  unfold elemOf at hm
  cases hu : P.underlying t with
  | none => simp [hu] at hm
  | some d =>
    cases d <;> simp only [hu] at hm <;> try (cases hm; done)
    rename_i e'
    cases hi' : P.info? e' with
    | none => simp [hi'] at hm
    | some inf =>
      simp only [hi', Option.map_some, Option.some.injEq] at hm
      unfold execOp
      rw [ho]
      have hs : (sizeOf e').run P w = .ok m w := by simp [sizeOf, typeInfo, hi', hm, program, Sem.run]
      have hadd : (⟨b, q, none⟩ : Addr).add (i.toNat * m) = ⟨b, q + (i.toNat * m + 0), none⟩ := by
        unfold Addr.add; split
        · rename_i h; simp [h]
        · simp
      simp only [hx, hy, Instr.indexAt, asIntOf, Sem.run_bind, Sem.run_pure, Result.andThen_ok, run_underlying hu]
      simp [h0, h1, hs, rp, hadd]
/-- A field's offset. -/
def fieldOff (P : Program) (t f : Nat) : Option Nat := match P.underlying t with | some (.struct fs) => (fs[f]?).bind fun x => (P.info? x.type).bind fun i => if i.size = 0 then none else some x.offset | _ => none
theorem run_field {t f off b q : Nat} (hf : fieldOff P t f = some off) (w : World) : (Instr.fieldAt t (.pointer (some ⟨b, q, none⟩)) f).run P w = .ok (.pointer (some ⟨b, q + off, none⟩)) w := by
  unfold fieldOff at hf
  cases hu : P.underlying t with
  | none => simp [hu] at hf
  | some d =>
    cases d <;> simp only [hu] at hf <;> try (cases hf; done)
    rename_i fs
    cases hx : fs[f]? with
    | none => simp [hx] at hf
    | some x =>
      cases hi : P.info? x.type with
      | none => simp [hx, hi] at hf
      | some i =>
        simp only [hx, hi, Option.bind_some] at hf
        split at hf
        · cases hf
        · rename_i hz
          cases hf
          have hs : (sizeOf x.type).run P w = .ok i.size w := by simp [sizeOf, typeInfo, hi, program, Sem.run]
          have hadd : (⟨b, q, none⟩ : Addr).add x.offset = ⟨b, q + x.offset, none⟩ := by
            unfold Addr.add; split
            · rename_i h; simp [h]
            · rfl
          simp [Instr.fieldAt, Instr.sureAddr, fieldPlace, run_underlying hu, hx, Sem.run_bind, hs, hz, hadd]
theorem fldR {i : Int} {e : E} {t f off b o1 o2 : Nat} {x : Operand} (k : KRow c enc m l A) (hi : idx l i = some e) (ho : o.op = .fieldAddr t x f) (hx : ev s x = .pointer (rp A (b + o1))) (hf : fieldOff P t f = some off) (h2 : o1 + off = o2) :
    ∀ w, Inv c bs w → (execOp (ev s) o).run P w = .ok (.value (.pointer (rp A (b + o2)))) w := fun w _ => by
  obtain ⟨b', q, rfl, h0, h1⟩ := k.addr hi
  subst h2
  have := run_field (P := P) (b := b') (q := q + (b + o1)) hf w
  unfold execOp
  rw [ho]
  simp only [hx, rp, Sem.run_bind, this, Result.andThen_ok, Sem.run_pure, Nat.add_assoc]
theorem run_ldc {t b q off : Nat} {cs : List Value} {v : Value} {w : World} (h : ldv P t cs off = some v) (hc : ∀ j v, cs[j]? = some v → w.cell? ⟨b, q + j, none⟩ = some v) :
    (Instr.loadAt t (.pointer (some ⟨b, q + off, none⟩))).run P w = .ok v w := by
  unfold ldv at h
  cases hu : P.underlying t with
  | none => simp [hu] at h
  | some d =>
    cases hi : P.info? t with
    | none => simp [hu, hi] at h
    | some i =>
      simp only [hu, hi] at h
      by_cases hd : d.isRow = true
      · rw [if_pos hd] at h
        by_cases hl : Nat.ble (off + i.size) cs.length = true
        · rw [if_pos hl] at h
          cases h
          have hl' : off + i.size ≤ cs.length := by simpa using hl
          refine run_loadAt_mid w b (q + off) t _ d (fun j v hv => ?_) hu hd (by simp [hi]; omega)
          have hj : j < i.size := by
            have := (List.getElem?_eq_some_iff.1 hv).1
            simp at this; omega
          rw [List.getElem?_take_of_lt hj, List.getElem?_drop] at hv
          rw [Nat.add_assoc]
          exact hc _ _ hv
        · rw [if_neg hl] at h; cases h
      · rw [if_neg hd] at h
        have hagg : (isAgg t).run P w = .ok false w := by
          unfold isAgg
          rw [Sem.run_bind, run_underlying hu w]
          cases d <;> simp_all
        have hcc := hc _ _ h
        simp [Instr.loadAt, Instr.sureAddr, loadVar, Sem.run_bind, hagg, load, Sem.run, hcc]
theorem ldR {i : Int} {e : E} {t off : Nat} {x : Operand} {v : Value} (k : KRow c enc m l A) (hi : idx l i = some e) (ho : o.op = .load t x) (hx : ev s x = .pointer (rp A (i.toNat * m + off))) (h : ldv P t (enc e) off = some v) :
    ∀ w, Inv c bs w → (execOp (ev s) o).run P w = .ok (.value v) w := fun w hw => by
  have k' := k.at hw
  unfold idx at hi
  split at hi
  · cases hi
  · obtain ⟨_, b, q, rfl, _, hc⟩ := k' _ _ hi
    have := run_ldc (P := P) (b := b) (q := q + i.toNat * m) (w := w) h (fun j v hv => hc j v hv)
    unfold execOp
    rw [ho]
    simp only [hx, rp, Sem.run_bind, ← Nat.add_assoc, this, Result.andThen_ok, Sem.run_pure]

/-! ### What is made, and then kept -/
/-- All that is there now is kept from here on, but for the named blocks. -/
def Cx.now (c : Cx) (bs : Bs) (w : World) : Cx := ⟨c.W, w, fun b => b < w.heap.size ∧ ∀ x ∈ bs, x.1 ≠ b⟩
theorem Inv.now {w : World} (h : Inv c bs w) : Inv (c.now bs w) bs w ∧ Le c (c.now bs w) :=
  ⟨⟨h.below, fun b hb => ⟨hb.1, rfl⟩, fun x hx => ⟨⟨(h.blk x hx).1.1, fun hF => hF.2 x hx rfl⟩, (h.blk x hx).2⟩, h.apart⟩,
   ⟨rfl, fun b hb => ⟨(h.keep b hb).1, fun x hx e => (h.blk x hx).1.2 (e ▸ hb)⟩, fun b hb => (h.keep b hb).2⟩⟩
theorem Inv.lt {w : World} (h : Inv c bs w) {x : Nat × (Obj → Prop)} (hx : x ∈ bs) : x.1 < w.heap.size := by
  obtain ⟨_, o, ho, _⟩ := h.blk x hx
  exact lt_of_some ho
theorem NRow.now {w w' : World} (n : NRow w w' enc m l A) (h : Inv c bs w) : KRow (c.now bs w') enc m l A := fun i e he => by
  obtain ⟨h1, b, q, hA, hF, hc⟩ := n.row i e he
  refine ⟨h1, b, q, hA, ⟨hF, fun x hx e' => ?_⟩, hc⟩
  have h2 := n.new b q hA (fun e => by subst e; simp at he)
  have h3 := h.lt hx
  omega
/-- A call whose result bears a list. -/
theorem LL.callR (f : Nat) (as : Array Value) (val : Option Addr → Nat → Value) (hfit : fit ops N s o = true) (hr : ∀ w, (execOp (ev s) o).run P w = .ok (.enter f as) w)
    (hv : ∀ w, Inv c bs w → Calls P f as w (RetR w enc m l val))
    (h : ∀ R F A cp, Le c ⟨c.W, R, F⟩ → KRow ⟨c.W, R, F⟩ enc m l A → (∀ b q, A = some ⟨b, q, none⟩ → l ≠ [] → c.W.heap.size ≤ b) → LL P ops ⟨c.W, R, F⟩ N (put o.dst (val A cp) s) bs Q rest) : LL P ops c N s bs Q (o :: rest) := fun a w hf hi => by
  obtain ⟨h1, h2, h3⟩ := fit_spec hfit
  refine wpList_step fun K hK => ?_
  rw [if_pos (hf.wants h1)]
  unfold Oper.wp
  rw [hf.execOp h2, hr]
  exact (hv w hi).mono fun e w' ⟨A, cp, he, hb, hn⟩ => by
    subst he
    have hi' := hi.call hb
    exact hK _ _ (h w' _ A cp hi'.now.2 (hn.now hi) (fun b q e hne => Nat.le_trans hi.below.size (hn.new b q e hne)) _ w' (hf.put h3 _) hi'.now.1)
theorem HS.callR {Z : World → Prop} {fuel : Nat} {listed : Array Bool} {i : Nat} (f : Nat) (as : Array Value) (val : Option Addr → Nat → Value) (hi : ops[i]? = some o) (hfit : fit ops N s o = true) (hr : ∀ w, (execOp (ev s) o).run P w = .ok (.enter f as) w) (hs : ∀ w, Inv c bs w → Z w)
    (hv : ∀ w, Inv c bs w → Calls P f as w (RetR w enc m l val))
    (h : ∀ R F A cp, Le c ⟨c.W, R, F⟩ → KRow ⟨c.W, R, F⟩ enc m l A → (∀ b q, A = some ⟨b, q, none⟩ → l ≠ [] → c.W.heap.size ≤ b) → HH P ops Z ⟨c.W, R, F⟩ N (put o.dst (val A cp) s) bs Q fuel (listed.setIfInBounds i true)) : HS P ops Z c N s bs Q fuel listed i := HS.of hi hfit fun K Q' hK a w hf hw => by
  obtain ⟨h1, h2, h3⟩ := fit_spec hfit
  unfold Oper.wp
  rw [hf.execOp h2, hr]
  exact (hv w hw).mono fun e w' ⟨A, cp, he, hb, hn⟩ => by
    subst he
    have hi' := hw.call hb
    exact hK _ _ _ _ _ rfl hi'.now.1 (hs _ hi') (h w' _ A cp hi'.now.2 (hn.now hw) (fun b q e hne => Nat.le_trans hw.below.size (hn.new b q e hne))) _ (hf.put h3 _)

/-- A list's cells, one behind the other. -/
def flat (enc : E → List Value) (l : List E) : List Value := l.flatMap enc
theorem flat_length (hm : ∀ e, (enc e).length = m) : ∀ l : List E, (flat enc l).length = l.length * m
  | [] => by simp [flat]
  | e :: l => by
    have := flat_length hm l
    simp only [flat, List.flatMap_cons, List.length_append, List.length_cons, hm] at this ⊢
    rw [this, Nat.add_mul]; omega
theorem flat_at (hm : ∀ e, (enc e).length = m) : ∀ (l : List E) (i : Nat) (e : E), l[i]? = some e → ∀ j v, (enc e)[j]? = some v → (flat enc l)[i * m + j]? = some v
  | [], i, e, h, _, _, _ => by simp at h
  | x :: l, 0, e, h, j, v, hv => by
    simp only [List.getElem?_cons_zero, Option.some.injEq] at h
    subst h
    have hj := (List.getElem?_eq_some_iff.1 hv).1
    simp only [flat, List.flatMap_cons, Nat.zero_mul, Nat.zero_add]
    rw [List.getElem?_append_left hj, hv]
  | x :: l, i + 1, e, h, j, v, hv => by
    have := flat_at hm l i e (by simpa using h) j v hv
    simp only [flat, List.flatMap_cons]
    rw [List.getElem?_append_right (by rw [hm, Nat.add_mul]; omega), hm]
    rw [show (i + 1) * m + j - m = i * m + j by rw [Nat.add_mul]; omega]
    exact this
/-- A list that lies alone in a block. -/
theorem KRow.of_cells (hm : ∀ e, (enc e).length = m) {g : Nat} (hF : c.F g) (h : ∀ j v, (flat enc l)[j]? = some v → c.R.cell? ⟨g, j, none⟩ = some v) : KRow c enc m l (some ⟨g, 0, none⟩) := fun i e he =>
  ⟨hm e, g, 0, rfl, hF, fun j v hv => by rw [Nat.zero_add]; exact h _ _ (flat_at hm l i e he j v hv)⟩
theorem cells_cell {w : World} {g : Nat} {cs : List Value} {T : TypeId} (hg : w.heap[g]? = some (.cells cs.toArray T (0, 0))) : ∀ j v, cs[j]? = some v → w.cell? ⟨g, j, none⟩ = some v := fun j v hv => by simp [World.cell?, hg, hv]
/-- A literal of a slice type: the cells, computed. -/
def litOf (P : Program) (t len : Nat) (parts : List (Nat × Value)) : Option (List Value × TypeId) :=
  match P.underlying t with
  | some (.slice e) => (P.info? e).bind fun i => i.zero.bind fun z =>
      if Nat.ble (len * i.size) 16777216 && !Nat.beq (len * i.size) 0 then (Instr.fill (fun j => some (j * i.size, i.size)) ((Array.range (len * i.size)).map (z.cells[· % z.cells.size]!)) parts).map fun cs => (cs.toList, e) else none
  | _ => none
theorem run_lit {t len : Nat} {parts : Array (Nat × Value)} {cs : List Value} {T : TypeId} (h : litOf P t len parts.toList = some (cs, T)) (w : World) : (Instr.buildSlice t len parts).run P w = .ok (.slice (some ⟨w.heap.size, 0, none⟩) len len) (w.alloc (.cells cs.toArray T)) := by
  unfold litOf at h
  cases hu : P.underlying t with
  | none => simp [hu] at h
  | some d =>
    cases d <;> simp only [hu] at h <;> try (cases h; done)
    rename_i e
    cases hi : P.info? e with
    | none => simp [hi] at h
    | some i =>
      cases hz : i.zero with
      | none => simp [hi, hz] at h
      | some z =>
        simp only [hi, hz, Option.bind_some] at h
        split at h
        · rename_i hb
          simp only [Bool.and_eq_true, Nat.ble_eq, Bool.not_eq_true'] at hb
          cases hfl : Instr.fill (fun j => some (j * i.size, i.size)) ((Array.range (len * i.size)).map (z.cells[· % z.cells.size]!)) parts.toList with
          | none => simp [hfl] at h
          | some r =>
            simp only [hfl, Option.map_some, Option.some.injEq, Prod.mk.injEq] at h
            obtain ⟨rfl, rfl⟩ := h
            exact run_buildSlice w t e len parts r i z hu hi hz (by omega) (fun e0 => by rw [e0] at hb; exact absurd hb.2 (by decide)) hfl
        · cases h
theorem Below.allocs (w : World) (o : Obj) : Below w.heap.size w (w.alloc o) := (Below.refl _ _).alloc (Nat.le_refl _) _
theorem run_litOp {t len : Nat} {parts : Array (Nat × Operand)} {cs : List Value} {T : TypeId} (ho : o.op = .buildSlice t len parts) (h : litOf P t len (parts.map fun x => (x.1, ev s x.2)).toList = some (cs, T)) (w : World) : (execOp (ev s) o).run P w = .ok (.value (.slice (some ⟨w.heap.size, 0, none⟩) len len)) (w.alloc (.cells cs.toArray T)) := by
  unfold execOp
  rw [ho]
  simp only [Sem.run_bind, run_lit h w, Result.andThen_ok, Sem.run_pure]
theorem lit_row {w : World} (hm : ∀ e, (enc e).length = m) {cs : List Value} {T : TypeId} (hl : flat enc l = cs) (hi : Inv c bs w) : KRow (c.now bs (w.alloc (.cells cs.toArray T))) enc m l (some ⟨w.heap.size, 0, none⟩) :=
  KRow.of_cells hm ⟨by simp, fun x hx e => by have := hi.lt hx; omega⟩ (fun j v hv => cells_cell (T := T) (heap_alloc_new w _) j v (hl ▸ hv))
theorem LL.lit (t len : Nat) (parts : Array (Nat × Operand)) (cs : List Value) (T : TypeId) (l : List E) (hfit : fit ops N s o = true) (ho : o.op = .buildSlice t len parts) (h : litOf P t len (parts.map fun x => (x.1, ev s x.2)).toList = some (cs, T)) (hm : ∀ e, (enc e).length = m) (hl : flat enc l = cs) (hlen : l.length = len)
    (h' : ∀ R F A cp, Le c ⟨c.W, R, F⟩ → KRow ⟨c.W, R, F⟩ enc m l A → (∀ b q, A = some ⟨b, q, none⟩ → l ≠ [] → c.W.heap.size ≤ b) → LL P ops ⟨c.W, R, F⟩ N (put o.dst (.slice A len cp) s) bs Q rest) : LL P ops c N s bs Q (o :: rest) := fun a w hf hi => by
  obtain ⟨h1, h2, h3⟩ := fit_spec hfit
  refine wpList_step fun K hK => ?_
  rw [if_pos (hf.wants h1)]
  unfold Oper.wp
  rw [hf.execOp h2, run_litOp ho h]
  have hi' := hi.call (Below.allocs w (.cells cs.toArray T))
  exact hK _ _ (h' _ _ _ _ hi'.now.2 (lit_row hm hl hi) (fun b q e _ => by cases e; exact hi.below.size) _ _ (hf.put h3 _) hi'.now.1)
theorem HS.lit {Z : World → Prop} {fuel : Nat} {listed : Array Bool} {i : Nat} (t len : Nat) (parts : Array (Nat × Operand)) (cs : List Value) (T : TypeId) (l : List E) (hi : ops[i]? = some o) (hfit : fit ops N s o = true) (ho : o.op = .buildSlice t len parts) (h : litOf P t len (parts.map fun x => (x.1, ev s x.2)).toList = some (cs, T)) (hm : ∀ e, (enc e).length = m) (hl : flat enc l = cs) (hlen : l.length = len) (hs : ∀ w, Inv c bs w → Z w)
    (h' : ∀ R F A cp, Le c ⟨c.W, R, F⟩ → KRow ⟨c.W, R, F⟩ enc m l A → (∀ b q, A = some ⟨b, q, none⟩ → l ≠ [] → c.W.heap.size ≤ b) → HH P ops Z ⟨c.W, R, F⟩ N (put o.dst (.slice A len cp) s) bs Q fuel (listed.setIfInBounds i true)) : HS P ops Z c N s bs Q fuel listed i := HS.of hi hfit fun K Q' hK a w hf hw => by
  obtain ⟨h1, h2, h3⟩ := fit_spec hfit
  unfold Oper.wp
  rw [hf.execOp h2, run_litOp ho h]
  have hi' := hw.call (Below.allocs w (.cells cs.toArray T))
  exact hK _ _ _ _ _ rfl hi'.now.1 (hs _ hi') (h' _ _ _ _ hi'.now.2 (lit_row hm hl hw) (fun b q e _ => by cases e; exact hw.below.size)) _ (hf.put h3 _)

/-! ### Lists that grow -/
structure EncOk (enc : E → List Value) (m : Nat) : Prop where
  len : ∀ e, (enc e).length = m
  one : ∀ e, ∀ u ∈ enc e, u.oneCell' = true
  pos : 0 < m
def ownObj (T m cap n : Nat) (xs : List Value) : Obj → Prop := fun o => ∃ cur : Array Value, o = .cells cur T (0, 0) ∧ cur.size = cap * m ∧ cur.toList.take (n * m) = xs
/-- A list that the function has made itself and may make longer: its slice's address and capacity, and the block that bears it. -/
inductive Own (enc : E → List Value) (m T : Nat) (l : List E) : Option Addr → Nat → Bs → Prop
  | nil (A : Option Addr) : l = [] → Own enc m T l A 0 []
  | blk (g cap : Nat) : l.length ≤ cap → cap ≤ maxLen → Own enc m T l (some ⟨g, 0, none⟩) cap [(g, ownObj T m cap l.length (flat enc l))]
theorem flat_get (hm : ∀ e, (enc e).length = m) : ∀ (l : List E) (j : Nat) (v : Value), (flat enc l)[j]? = some v → ∃ i e j', l[i]? = some e ∧ (enc e)[j']? = some v ∧ j = i * m + j'
  | [], j, v, h => by simp [flat] at h
  | x :: l, j, v, h => by
    simp only [flat, List.flatMap_cons] at h
    by_cases hj : j < (enc x).length
    · rw [List.getElem?_append_left hj] at h
      exact ⟨0, x, j, rfl, h, by omega⟩
    · rw [List.getElem?_append_right (by omega)] at h
      obtain ⟨i, e, j', h1, h2, h3⟩ := flat_get hm l _ v h
      refine ⟨i + 1, e, j', by simpa using h1, h2, ?_⟩
      rw [hm] at h3 hj
      rw [Nat.add_mul]; omega
theorem flat_append (l l' : List E) : flat enc (l ++ l') = flat enc l ++ flat enc l' := by simp [flat]
theorem flat_one (ok : EncOk enc m) (l : List E) : ∀ u ∈ flat enc l, u.oneCell' = true := fun u hu => by
  simp only [flat, List.mem_flatMap] at hu
  obtain ⟨e, _, he⟩ := hu
  exact ok.one e u he
/-- Where a list that is read lies, cell for cell. -/
theorem KRow.news {w : World} (ok : EncOk enc m) (k : KRow (Cx.start w) enc m l A) (hne : l ≠ []) : ∃ a : Addr, A = some a ∧ ∀ j u, (flat enc l)[j]? = some u → w.cell? (a.add j) = some u := by
  obtain ⟨x, l', rfl⟩ := List.exists_cons_of_ne_nil hne
  obtain ⟨_, b, q, rfl, _⟩ := k 0 x rfl
  refine ⟨_, rfl, fun j u hu => ?_⟩
  obtain ⟨i, e, j', h1, h2, rfl⟩ := flat_get ok.len _ j u hu
  obtain ⟨_, b', q', hA, _, hc⟩ := k i e h1
  simp only [Option.some.injEq, Addr.mk.injEq] at hA
  obtain ⟨rfl, rfl, _⟩ := hA
  have := hc j' u h2
  unfold Addr.add
  split
  · rename_i h0; rw [Nat.add_assoc, h0, Nat.add_zero] at this; exact this
  · rw [Nat.add_assoc] at this; exact this
/-- The pure append: none, where no memory would bear it. -/
def app (bytes : Nat) (l l' : List E) : Option (List E) := if (l.length + l'.length) * bytes ≤ 140737488355328 then some (l ++ l') else none
theorem app_spec {bytes : Nat} {l l' r : List E} (h : app bytes l l' = some r) : r = l ++ l' ∧ (l.length + l'.length) * bytes ≤ 140737488355328 := by
  unfold app at h
  split at h
  · exact ⟨(Option.some.inj h).symm, by assumption⟩
  · cases h
structure ElemOk (P : Program) (t T m bytes : Nat) : Prop where
  ht : P.underlying t = some (.slice T)
  hi : ∃ i z, P.info? T = some i ∧ i.zero = some z ∧ i.size = m ∧ i.bytes = bytes ∧ z.cells.size = m
  hb : 0 < bytes
theorem run_nothing {t T m bytes ty n cap : Nat} (el : ElemOk P t T m bytes) (A A2 : Option Addr) (c2 : Nat) (hle : n ≤ cap) (w : World) : (Builtin.append_ #[t, t] ty #[.slice A n cap, .slice A2 0 c2]).run P w = .ok (.slice A n cap) w := by
  obtain ⟨i, z, hi, hz, hs, hb, hzs⟩ := el.hi
  cases A <;> cases A2 <;> simp [Builtin.append_, run_underlying el.ht, sizeOf, typeInfo, hi, Builtin.lenOf, Builtin.firstCells, loadCells, loadCellsFrom, hle, storeCells]
/-- What an append comes to: the list's new address and capacity, and its block. -/
theorem run_app {t T m bytes ty : Nat} {l l2 r : List E} {A A2 : Option Addr} {cap c2 : Nat} {ba pre : Bs} {w : World} (el : ElemOk P t T m bytes) (ok : EncOk enc m) (own : Own enc m T l A cap ba) (k2 : KRow c enc m l2 A2) (ha : app bytes l l2 = some r) (hi : Inv c (pre ++ ba) w) :
    ∃ A' cap' ba' w', (Builtin.append_ #[t, t] ty #[.slice A l.length cap, .slice A2 l2.length c2]).run P w = .ok (.slice A' r.length cap') w' ∧ Own enc m T r A' cap' ba' ∧ Inv c (pre ++ ba') w' ∧ Inv c pre w' := by
  obtain ⟨rfl, hby⟩ := app_spec ha
  obtain ⟨i, z, hinf, hz, hs, hb, hzs⟩ := el.hi
  have hpre : Inv c pre w := hi.sub (List.sublist_append_left _ _)
  by_cases h2 : l2 = []
  · subst h2
    have hle : l.length ≤ cap := by cases own with
      | nil _ h => subst h; exact Nat.le_refl _
      | blk g cap h1 h2 => exact h1
    refine ⟨A, cap, ba, w, ?_, by simpa using own, hi, hpre⟩
    simpa using run_nothing el A A2 c2 hle w
  obtain ⟨a2, rfl, hnews⟩ := (k2.at hi).news ok h2
  have hl2 : 0 < l2.length := List.length_pos_iff.2 h2
  have hnl : (flat enc l2).length = l2.length * i.size := by rw [flat_length ok.len, hs]
  have hbp := el.hb
  have hsum : l.length + l2.length ≤ 140737488355328 := Nat.le_trans (Nat.le_mul_of_pos_right _ hbp) hby
  have h63 : l.length + l2.length ≤ maxLen := by simp only [maxLen]; omega
  have h1 := flat_one ok l2
  subst hs
  -- a new block
  have fresh : ∀ (old : Nat), Own enc i.size T (l ++ l2) (some ⟨w.heap.size, 0, none⟩) (grownCap w (l.length + l2.length) old T) [(w.heap.size, ownObj T i.size (grownCap w (l.length + l2.length) old T) (l ++ l2).length (flat enc (l ++ l2)))] ∧
      Inv c (pre ++ [(w.heap.size, ownObj T i.size (grownCap w (l.length + l2.length) old T) (l ++ l2).length (flat enc (l ++ l2)))]) (w.drew.alloc (.cells ((flat enc l).toArray ++ (flat enc l2).toArray ++ Builtin.zeroCells z.cells (grownCap w (l.length + l2.length) old T - (l.length + l2.length))) T)) ∧
      Inv c pre (w.drew.alloc (.cells ((flat enc l).toArray ++ (flat enc l2).toArray ++ Builtin.zeroCells z.cells (grownCap w (l.length + l2.length) old T - (l.length + l2.length))) T)) := by
    intro old
    have hge := grownCap_ge w (l.length + l2.length) old T
    have hmx := grownCap_le_maxLen w (l.length + l2.length) old T h63
    have hd : Inv c pre w.drew := hpre.drew
    have hx := hd.new (o := .cells ((flat enc l).toArray ++ (flat enc l2).toArray ++ Builtin.zeroCells z.cells (grownCap w (l.length + l2.length) old T - (l.length + l2.length))) T) (φ := ownObj T i.size (grownCap w (l.length + l2.length) old T) (l ++ l2).length (flat enc (l ++ l2))) ⟨_, rfl, by
      simp only [Array.size_append, List.size_toArray, size_zeroCells, hzs, flat_length ok.len, ← Nat.add_mul]
      congr 1; omega, by
      simp only [Array.toList_append, flat_append, List.length_append]
      have : (flat enc l ++ flat enc l2).length = (l.length + l2.length) * i.size := by rw [List.length_append, flat_length ok.len, flat_length ok.len, Nat.add_mul]
      rw [← this]
      exact List.take_left⟩
    refine ⟨.blk _ _ (by rw [List.length_append]; exact hge) hmx, ?_, hx.sub (List.sublist_cons_self _ _)⟩
    refine ⟨hx.below, hx.keep, fun y hy => hx.blk y ?_, ?_⟩
    · rcases List.mem_append.1 hy with h | h
      · exact List.mem_cons_of_mem _ h
      · obtain rfl := List.mem_singleton.1 h; exact List.mem_cons_self
    · refine List.pairwise_append.2 ⟨hpre.apart, List.pairwise_singleton _ _, fun y hy u hu => ?_⟩
      obtain rfl := List.mem_singleton.1 hu
      have := hpre.lt hy
      exact fun e => by dsimp only at e; omega
  cases own with
  | nil A0 hl =>
    subst hl
    cases A with
    | none =>
      obtain ⟨f1, f2, f3⟩ := fresh 0
      refine ⟨_, _, _, _, ?_, f1, f2, f3⟩
      have hr := run_append_nil (P := P) (w := w) t ty T i z el.ht hinf hz a2 l2.length c2 (flat enc l2) hnl hnews hl2 (by omega) (by rw [hb]; simp at hby; omega)
      simpa [flat] using hr
    | some b =>
      obtain ⟨f1, f2, f3⟩ := fresh 0
      refine ⟨_, _, _, _, ?_, f1, f2, f3⟩
      have hr := run_append_grow (P := P) (w := w) t ty T i z el.ht hinf hz b 0 0 [] (by simp) (by simp) a2 l2.length c2 (flat enc l2) hnl hnews (by omega) (by omega) (growslice_fits (by omega) (by rw [hb]; simpa using hby))
      simpa [flat] using hr
  | blk g _ hle hcm =>
    obtain ⟨hg0, ob, hob, cur, rfl, hcs, htake⟩ := hi.blk (g, ownObj T i.size cap l.length (flat enc l)) (List.mem_append_right _ List.mem_cons_self)
    by_cases hroom : l.length + l2.length ≤ cap
    · have hfit : l.length * i.size + (flat enc l2).length ≤ cur.size := by rw [hnl, hcs, ← Nat.add_mul]; exact Nat.mul_le_mul_right _ hroom
      have hr := run_append_room (P := P) (w := w) t ty T i el.ht hinf g l.length cap cur hob a2 l2.length c2 (flat enc l2) hnl hnews h1 hroom hfit
      rw [← List.length_append] at hr
      refine ⟨_, _, _, _, hr, .blk g cap (by rw [List.length_append]; exact hroom) hcm, ?_⟩
      have hil : (pre ++ [(g, ownObj T i.size cap l.length (flat enc l))])[pre.length]? = some (g, ownObj T i.size cap l.length (flat enc l)) := by simp
      have ht := hi.turn (w' := w.setRow g (cur.toList.take (l.length * i.size) ++ flat enc l2 ++ cur.toList.drop (l.length * i.size + (flat enc l2).length)).toArray) hil (ψ := ownObj T i.size cap (l ++ l2).length (flat enc (l ++ l2))) rfl rfl rfl (by simp) (fun k hk => setRow_other w g k _ hk) (setRow_heap w g cur _ T _ hob) ⟨_, rfl, by
          simp only [List.size_toArray, List.length_append, List.length_take, List.length_drop, Array.length_toList]; omega, by
          have : (flat enc l ++ flat enc l2).length = (l ++ l2).length * i.size := by rw [List.length_append, flat_length ok.len, flat_length ok.len, List.length_append, Nat.add_mul]
          rw [htake, flat_append, ← this]
          exact List.take_left⟩
      simp only [List.set_append_right _ _ (Nat.le_refl _), Nat.sub_self, List.set_cons_zero] at ht
      exact ⟨ht, ht.sub (List.sublist_append_left _ _)⟩
    · obtain ⟨f1, f2, f3⟩ := fresh cap
      refine ⟨_, _, _, _, ?_, f1, f2, f3⟩
      have hcell := cells_cell (w := w) (g := g) (cs := cur.toList) (T := T) (by simpa using hob)
      have hr := run_append_grow (P := P) (w := w) t ty T i z el.ht hinf hz ⟨g, 0, none⟩ l.length cap (flat enc l) (flat_length ok.len l) (fun j v hv => by
        have : cur.toList[j]? = some v := by
          rw [← htake] at hv
          have hj := (List.getElem?_eq_some_iff.1 hv).1
          rw [List.length_take] at hj
          rwa [List.getElem?_take_of_lt (by omega)] at hv
        have := hcell j v this
        unfold Addr.add; split
        · rename_i h0; rw [h0] at this; exact this
        · rw [Nat.zero_add]; exact this) a2 l2.length c2 (flat enc l2) hnl hnews (by omega) (by omega) (growslice_fits (by omega) (by rw [hb]; exact hby))
      simpa using hr

theorem run_appOp {t T m bytes : Nat} {l l2 r : List E} {A A2 : Option Addr} {cap c2 : Nat} {ba pre : Bs} {w : World} {x y : Operand} (el : ElemOk P t T m bytes) (ok : EncOk enc m) (own : Own enc m T l A cap ba) (k2 : KRow c enc m l2 A2) (ha : app bytes l l2 = some r) (hi : Inv c (pre ++ ba) w)
    (ho : o.op = .call { callee := .builtin .append, args := #[x, y], argTypes := #[t, t] }) (hx : ev s x = .slice A l.length cap) (hy : ev s y = .slice A2 l2.length c2) :
    ∃ A' cap' ba' w', (execOp (ev s) o).run P w = .ok (.value (.slice A' r.length cap')) w' ∧ Own enc m T r A' cap' ba' ∧ Inv c (pre ++ ba') w' ∧ Inv c pre w' := by
  obtain ⟨A', cap', ba', w', h1, h2, h3, h4⟩ := run_app (ty := o.type) (c2 := c2) el ok own k2 ha hi
  refine ⟨A', cap', ba', w', ?_, h2, h3, h4⟩
  unfold execOp
  simp only [ho, resolve, invoke, builtin, Sem.run_bind, Sem.run_pure, Result.andThen_ok, List.map_toArray, List.map_cons, List.map_nil, hx, hy, h1]
theorem LL.app {t T m bytes : Nat} {l l2 r : List E} {A A2 : Option Addr} {cap c2 : Nat} {ba : Bs} (pre : Bs) (x y : Operand) (el : ElemOk P t T m bytes) (ok : EncOk enc m) (own : Own enc m T l A cap ba) (k2 : KRow c enc m l2 A2) (ha : app bytes l l2 = some r) (hfit : fit ops N s o = true)
    (ho : o.op = .call { callee := .builtin .append, args := #[x, y], argTypes := #[t, t] }) (hx : ev s x = .slice A l.length cap) (hy : ev s y = .slice A2 l2.length c2)
    (h : ∀ A' cap' ba', Own enc m T r A' cap' ba' → LL P ops c N (put o.dst (.slice A' r.length cap') s) (pre ++ ba') Q rest) : LL P ops c N s (pre ++ ba) Q (o :: rest) := fun a w hf hi => by
  obtain ⟨h1, h2, h3⟩ := fit_spec hfit
  obtain ⟨A', cap', ba', w', e1, e2, e3, _⟩ := run_appOp el ok own k2 ha hi ho hx hy
  refine wpList_step fun K hK => ?_
  rw [if_pos (hf.wants h1)]
  unfold Oper.wp
  rw [hf.execOp h2, e1]
  exact hK _ _ (h _ _ _ e2 _ _ (hf.put h3 _) e3)
theorem HS.app {Z : World → Prop} {fuel : Nat} {listed : Array Bool} {i : Nat} {t T m bytes : Nat} {l l2 r : List E} {A A2 : Option Addr} {cap c2 : Nat} {ba : Bs} (pre : Bs) (x y : Operand) (el : ElemOk P t T m bytes) (ok : EncOk enc m) (own : Own enc m T l A cap ba) (k2 : KRow c enc m l2 A2) (ha : app bytes l l2 = some r) (hi : ops[i]? = some o) (hfit : fit ops N s o = true)
    (ho : o.op = .call { callee := .builtin .append, args := #[x, y], argTypes := #[t, t] }) (hx : ev s x = .slice A l.length cap) (hy : ev s y = .slice A2 l2.length c2) (hs : ∀ w, Inv c pre w → Z w)
    (h : ∀ A' cap' ba', Own enc m T r A' cap' ba' → HH P ops Z c N (put o.dst (.slice A' r.length cap') s) (pre ++ ba') Q fuel (listed.setIfInBounds i true)) : HS P ops Z c N s (pre ++ ba) Q fuel listed i := HS.of hi hfit fun K Q' hK a w hf hw => by
  obtain ⟨h1, h2, h3⟩ := fit_spec hfit
  obtain ⟨A', cap', ba', w', e1, e2, e3, e4⟩ := run_appOp el ok own k2 ha hw ho hx hy
  unfold Oper.wp
  rw [hf.execOp h2, e1]
  exact hK _ _ _ _ _ rfl e3 (hs _ e4) (h _ _ _ e2) _ (hf.put h3 _)
/-- An empty literal. -/
def lit0 (P : Program) (t : TypeId) : Bool := match P.underlying t with
  | some (.slice e) => (P.info? e).isSome
  | _ => false
theorem run_lit0 {t : TypeId} (h : lit0 P t = true) (w : World) : ∃ T, (Instr.buildSlice t 0 #[]).run P w = .ok (.slice (some ⟨w.heap.size, 0, none⟩) 0 0) (w.alloc (.cells #[] T)) := by
  unfold lit0 at h
  cases hu : P.underlying t with
  | none => simp [hu] at h
  | some d =>
    cases d <;> simp only [hu] at h <;> try (cases h; done)
    rename_i e
    obtain ⟨i, hi⟩ := Option.isSome_iff_exists.1 h
    refine ⟨e, ?_⟩
    simp [Instr.buildSlice, run_underlying hu, sizeOf, typeInfo, hi, Instr.fill, newRow]
    congr 2
    exact Array.eq_empty_of_size_eq_zero (by simp)
theorem LL.lit0 (t T m : Nat) (enc : E → List Value) (hfit : fit ops N s o = true) (ho : o.op = .buildSlice t 0 #[]) (h : lit0 P t = true) (h' : ∀ A, Own enc m T ([] : List E) A 0 [] → LL P ops c N (put o.dst (.slice A ([] : List E).length 0) s) bs Q rest) : LL P ops c N s bs Q (o :: rest) := fun a w hf hi => by
  obtain ⟨h1, h2, h3⟩ := fit_spec hfit
  obtain ⟨T', hr⟩ := run_lit0 h w
  refine wpList_step fun K hK => ?_
  rw [if_pos (hf.wants h1)]
  have hrun : (execOp (ev s) o).run P w = .ok (.value (.slice (some ⟨w.heap.size, 0, none⟩) 0 0)) (w.alloc (.cells #[] T')) := by
    unfold execOp
    rw [ho]
    simp [hr]
  unfold Oper.wp
  rw [hf.execOp h2, hrun]
  exact hK _ _ (h' _ (.nil _ rfl) _ _ (hf.put h3 _) (hi.call (Below.allocs w _)))
theorem HS.lit0 {Z : World → Prop} {fuel : Nat} {listed : Array Bool} {i : Nat} (t T m : Nat) (enc : E → List Value) (hi : ops[i]? = some o) (hfit : fit ops N s o = true) (ho : o.op = .buildSlice t 0 #[]) (h : Saw.lit0 P t = true) (hs : ∀ w, Inv c bs w → Z w) (h' : ∀ A, Own enc m T ([] : List E) A 0 [] → HH P ops Z c N (put o.dst (.slice A ([] : List E).length 0) s) bs Q fuel (listed.setIfInBounds i true)) : HS P ops Z c N s bs Q fuel listed i := HS.of hi hfit fun K Q' hK a w hf hw => by
  obtain ⟨h1, h2, h3⟩ := fit_spec hfit
  obtain ⟨T', hr⟩ := run_lit0 h w
  have hrun : (execOp (ev s) o).run P w = .ok (.value (.slice (some ⟨w.heap.size, 0, none⟩) 0 0)) (w.alloc (.cells #[] T')) := by
    unfold execOp
    rw [ho]
    simp [hr]
  unfold Oper.wp
  rw [hf.execOp h2, hrun]
  have hi' := hw.call (Below.allocs w (.cells #[] T'))
  exact hK _ _ _ _ _ rfl hi' (hs _ hi') (h' _ (.nil _ rfl)) _ (hf.put h3 _)
/-- From here on the list is only read. -/
theorem Own.row {T cap : Nat} {ba pre : Bs} {w : World} (ok : EncOk enc m) (own : Own enc m T l A cap ba) (hi : Inv c (pre ++ ba) w) : KRow (c.now pre w) enc m l A ∧ ∀ b q, A = some ⟨b, q, none⟩ → l ≠ [] → c.W.heap.size ≤ b := by
  cases own with
  | nil _ h => subst h; exact ⟨KRow.nil, fun _ _ _ h => absurd rfl h⟩
  | blk g _ hle hcm =>
    have hmem : (g, ownObj T m cap l.length (flat enc l)) ∈ pre ++ [(g, ownObj T m cap l.length (flat enc l))] := List.mem_append_right _ List.mem_cons_self
    obtain ⟨⟨hg1, hg2⟩, ob, hob, cur, rfl, hcs, htake⟩ := hi.blk _ hmem
    refine ⟨KRow.of_cells ok.len ⟨lt_of_some hob, fun x hx e => ?_⟩ fun j v hv => ?_, fun b q e _ => by cases e; exact hg1⟩
    · have := (List.pairwise_append.1 hi.apart).2.2 x hx _ List.mem_cons_self
      exact this e
    · rw [← htake] at hv
      have hj := (List.getElem?_eq_some_iff.1 hv).1
      rw [List.length_take] at hj
      rw [List.getElem?_take_of_lt (by omega)] at hv
      exact cells_cell (w := w) (g := g) (cs := cur.toList) (T := T) (by simpa using hob) j v hv
theorem LL.freeze {T cap : Nat} {ba : Bs} {ops' : List Oper} (pre : Bs) (ok : EncOk enc m) (own : Own enc m T l A cap ba) (h : ∀ R F, Le c ⟨c.W, R, F⟩ → KRow ⟨c.W, R, F⟩ enc m l A → (∀ b q, A = some ⟨b, q, none⟩ → l ≠ [] → c.W.heap.size ≤ b) → LL P ops ⟨c.W, R, F⟩ N s pre Q ops') : LL P ops c N s (pre ++ ba) Q ops' := fun a w hf hi => by
  have hp := hi.sub (List.sublist_append_left pre ba)
  exact h _ _ hp.now.2 (own.row ok hi).1 (own.row ok hi).2 a w hf hp.now.1
theorem J.freeze {T cap : Nat} {ba : Bs} {x : Code} (pre : Bs) (ok : EncOk enc m) (own : Own enc m T l A cap ba) (h : ∀ R F, Le c ⟨c.W, R, F⟩ → KRow ⟨c.W, R, F⟩ enc m l A → (∀ b q, A = some ⟨b, q, none⟩ → l ≠ [] → c.W.heap.size ≤ b) → J P ⟨c.W, R, F⟩ N s pre Q x) : J P c N s (pre ++ ba) Q x := fun a w hf hi => by
  have hp := hi.sub (List.sublist_append_left pre ba)
  exact h _ _ hp.now.2 (own.row ok hi).1 (own.row ok hi).2 a w hf hp.now.1
theorem Below.start_row {W w : World} {T cap : Nat} {ba pre : Bs} (ok : EncOk enc m) (own : Own enc m T l A cap ba) (hi : Inv c (pre ++ ba) w) : NRow c.W w enc m l A := by
  obtain ⟨h1, h2⟩ := own.row ok hi
  exact ⟨h1.at (hi.sub (List.sublist_append_left pre ba)).now.1, h2⟩
theorem Inv.retOwn {w : World} {T cap : Nat} {ba pre : Bs} (h : Inv c (pre ++ ba) w) (ok : EncOk enc m) (own : Own enc m T l A cap ba) {val : Option Addr → Nat → Value} {v : Value} (e : v = val A cap) : RetR c.W enc m l val (.returned v) w :=
  ⟨A, cap, by rw [e], h.below, Below.start_row (W := w) ok own h⟩

theorem HH.freeze {Z : World → Prop} {fuel : Nat} {listed : Array Bool} {T cap : Nat} {ba : Bs} (pre : Bs) (ok : EncOk enc m) (own : Own enc m T l A cap ba) (h : ∀ R F, Le c ⟨c.W, R, F⟩ → KRow ⟨c.W, R, F⟩ enc m l A → (∀ b q, A = some ⟨b, q, none⟩ → l ≠ [] → c.W.heap.size ≤ b) → HH P ops Z ⟨c.W, R, F⟩ N s pre Q fuel listed) : HH P ops Z c N s (pre ++ ba) Q fuel listed := fun a w hf hi => by
  have hp := hi.sub (List.sublist_append_left pre ba)
  exact h _ _ hp.now.2 (own.row ok hi).1 (own.row ok hi).2 a w hf hp.now.1
theorem Inv.retRow {w : World} (h : Inv c bs w) (k : KRow c enc m l A) (fr : ∀ b q, A = some ⟨b, q, none⟩ → l ≠ [] → c.W.heap.size ≤ b) {val : Option Addr → Nat → Value} {v : Value} (cp : Nat) (e : v = val A cp) : RetR c.W enc m l val (.returned v) w :=
  ⟨A, cp, by rw [e], h.below, k.at h, fr⟩
theorem NN.roundR {c' : Cx} {n n' : Nat} {I : Nat → S → Bs → Prop} {s' : S} {bs' : Bs} (l : List Nat) (hb : ∀ bs w, Inv c' bs w → Inv c bs w) (hlt : n' < n) (hs : bs'.Sublist bs) (e : Saw.keep s l = s') (h : I n' s' bs') : NN c' N s bs (Exit.then (fun a w => ∃ n' s' bs', n' < n ∧ I n' s' bs' ∧ Fr N s' a ∧ Inv c bs' w) Q) .normal :=
  fun _ _ hf hi => ⟨n', s', bs', hlt, h, hf.to l e, hb _ _ (hi.sub hs)⟩
/-- The byte of a string at an index that Go takes. -/
def sidx (b : ByteArray) (i : Int) : Option Int := (if 0 ≤ i then b[i.toNat]? else none).map fun x => (x.toNat : Int)
theorem run_sidx {t : TypeId} {x y : Operand} {b : ByteArray} {i r : Int} {ik : IntKind} (ho : o.op = .index t x y) (hx : ev s x = .string b) (hy : ev s y = .int ik i) (hu : P.underlying t = some .string) (h : sidx b i = some r) : ∀ w, Inv c bs w → (execOp (ev s) o).run P w = .ok (.value (.int .u8 r)) w := fun w _ => by
  unfold sidx at h
  cases hb : (if 0 ≤ i then b[i.toNat]? else none) with
  | none => rw [hb] at h; cases h
  | some q =>
    rw [hb] at h
    cases h
    unfold execOp
    rw [ho]
    simp only [hx, hy, Instr.index, asIntOf, Sem.run_bind, Sem.run_pure, Result.andThen_ok, run_underlying hu, hb]

/-! ### Structs that are compared -/
def pv (P : Program) (t : TypeId) (cs : Array Value) (off : Nat) : Option Value :=
  match P.underlying t, P.info? t with
  | some d, some i => if d.isRow then some (.agg (cs.extract off (off + i.size))) else cs[off]?
  | _, _ => none
def eqF (P : Program) (g : TypeId → Value → Value → Option Bool) (xs ys : Array Value) : List Field → Option Bool
  | [] => some true
  | f :: fs => if f.name == "_" then none else match pv P f.type xs f.offset, pv P f.type ys f.offset with
    | some a, some b => match g f.type a b, eqF P g xs ys fs with
      | some r, some s => some (r && s)
      | _, _ => none
    | _, _ => none
def eqB (P : Program) : Nat → TypeId → Value → Value → Option Bool
  | 0, _, _, _ => none
  | d + 1, t, x, y => match P.underlying t with
    | some .bool => match x, y with
      | .bool a, .bool b => some (a == b)
      | _, _ => none
    | some (.int _) => match x, y with
      | .int k a, .int k' b => if k = k' then some (a == b) else none
      | _, _ => none
    | some (.struct fs) => match x, y with
      | .agg xs, .agg ys => if P.stoodInHeld t then none else eqF P (eqB P d) xs ys fs.toList
      | _, _ => none
    | _ => none
theorem run_pv {t off : Nat} {cs : Array Value} {v : Value} (h : pv P t cs off = some v) (w : World) : (part t cs off).run P w = .ok v w := by
  unfold pv at h
  cases hu : P.underlying t with
  | none => simp [hu] at h
  | some d =>
    cases hi : P.info? t with
    | none => simp [hu, hi] at h
    | some i =>
      simp only [hu, hi] at h
      have hs : (sizeOf t).run P w = .ok i.size w := by simp [sizeOf, typeInfo, hi, program, Sem.run]
      by_cases hd : d.isRow = true
      · rw [if_pos hd] at h
        cases h
        have hagg : (isAgg t).run P w = .ok true w := by
          unfold isAgg
          rw [Sem.run_bind, run_underlying hu w]
          cases d <;> simp_all [TypeDesc.isRow]
        simp [part, hagg, hs]
      · rw [if_neg hd] at h
        have hagg : (isAgg t).run P w = .ok false w := by
          unfold isAgg
          rw [Sem.run_bind, run_underlying hu w]
          cases d <;> simp_all
        simp [part, hagg, h]
theorem run_eqF {d : Nat} (ih : ∀ t x y r w, eqB P d t x y = some r → (Op.equalIn d t x y).run P w = .ok r w) {xs ys : Array Value} : ∀ (fs : List Field) (r : Bool) (w : World), eqF P (eqB P d) xs ys fs = some r → (Op.eqFields d xs ys fs).run P w = .ok r w
  | [], r, w, h => by simp only [eqF, Option.some.injEq] at h; subst h; simp [Op.eqFields]
  | f :: fs, r, w, h => by
    simp only [eqF] at h
    split at h
    · cases h
    · rename_i hn
      have hn' : f.name ≠ "_" := by simpa using hn
      cases ha : pv P f.type xs f.offset with
      | none => simp [ha] at h
      | some a =>
        cases hb : pv P f.type ys f.offset with
        | none => simp [ha, hb] at h
        | some b =>
          simp only [ha, hb] at h
          cases hr : eqB P d f.type a b with
          | none => simp [hr] at h
          | some q =>
            cases hq : eqF P (eqB P d) xs ys fs with
            | none => simp [hr, hq] at h
            | some u =>
              simp only [hr, hq, Option.some.injEq] at h
              subst h
              have h1 := ih _ _ _ _ w hr
              have h2 := run_eqF ih fs u w hq
              simp only [Op.eqFields, if_pos hn', Sem.run_bind, run_pv ha w, run_pv hb w, h1, Result.andThen_ok]
              cases q
              · simp
              · simpa using h2
theorem run_eqB : ∀ (d : Nat) (t : TypeId) (x y : Value) (r : Bool) (w : World), eqB P d t x y = some r → (Op.equalIn d t x y).run P w = .ok r w
  | 0, _, _, _, _, _, h => by simp [eqB] at h
  | d + 1, t, x, y, r, w, h => by
    simp only [eqB] at h
    cases hu : P.underlying t with
    | none => simp [hu] at h
    | some u =>
      cases u <;> simp only [hu] at h <;> try (cases h; done)
      · cases x <;> cases y <;> simp only [Option.some.injEq, reduceCtorEq] at h
        subst h
        simp [Op.equalIn, Sem.run_bind, run_underlying hu]
      · cases x <;> cases y <;> simp only [reduceCtorEq] at h
        split at h
        · rename_i hk
          subst hk
          simp only [Option.some.injEq] at h
          subst h
          simp [Op.equalIn, Sem.run_bind, run_underlying hu]
        · cases h
      · rename_i fs
        cases x <;> cases y <;> simp only [reduceCtorEq] at h
        split at h
        · cases h
        · rename_i hp
          have hf : P.fieldsOf t = fs := by simp [Program.fieldsOf, hu]
          rw [run_equalIn_struct (P := P) w d t _ _ (by rw [hf]; exact hu) (by simpa using hp), hf]
          exact run_eqF (fun t x y r w => run_eqB d t x y r w) _ _ w h
theorem run_eqS {t u : TypeId} {x y : Operand} {xs ys : Array Value} {b : Bool} (ho : o.op = .binOp .eql t x y u) (hx : ev s x = .agg xs) (hy : ev s y = .agg ys) (hg : P.eqGuardType P.depth t = false) (hb : eqB P Op.maxDepth t (.agg xs) (.agg ys) = some b) : ∀ w, Inv c bs w → (execOp (ev s) o).run P w = .ok (.value (.bool b)) w := fun w _ => by
  unfold execOp
  rw [ho]
  have := run_eqB (P := P) _ _ _ _ _ w hb
  simp [hx, hy, eqGuard, hg, binOp, Op.equal, this]
theorem run_neS {t u : TypeId} {x y : Operand} {xs ys : Array Value} {b : Bool} (ho : o.op = .binOp .neq t x y u) (hx : ev s x = .agg xs) (hy : ev s y = .agg ys) (hg : P.eqGuardType P.depth t = false) (hb : eqB P Op.maxDepth t (.agg xs) (.agg ys) = some b) : ∀ w, Inv c bs w → (execOp (ev s) o).run P w = .ok (.value (.bool (!b))) w := fun w _ => by
  unfold execOp
  rw [ho]
  have := run_eqB (P := P) _ _ _ _ _ w hb
  simp [hx, hy, eqGuard, hg, binOp, Op.equal, this]

/-- A function value that tests an element: what it answers, in every world in which what is kept is kept. -/
structure PredAt (P : Program) (c : Cx) (enc : E → List Value) (q : E → Bool) (f : FuncId) (caps : Array Value) : Prop where
  call : ∀ args w, (callFunc f args).run P w = .ok (.enter f args) w
  run : ∀ w, (∀ b, c.F b → b < w.heap.size ∧ w.heap[b]? = c.R.heap[b]?) → ∀ e, Calls P f (#[.agg (enc e).toArray] ++ caps) w (Ret w (.bool (q e)))
theorem PredAt.le {c c' : Cx} {q : E → Bool} {f : FuncId} {caps : Array Value} (h : PredAt P c enc q f caps) (le : Le c c') : PredAt P c' enc q f caps :=
  ⟨h.call, fun w hw e => h.run w (fun b hb => ⟨(hw b (le.F b hb)).1, (hw b (le.F b hb)).2.trans (le.R b hb)⟩) e⟩
theorem PredAt.at {q : E → Bool} {f : FuncId} {caps : Array Value} {w : World} (h : PredAt P c enc q f caps) (hi : Inv c bs w) : PredAt P (Cx.start w) enc q f caps :=
  ⟨h.call, fun w' hw' e => h.run w' (fun b hb => by
    have h1 := hi.keep b hb
    have h2 := hw' b h1.1
    exact ⟨h2.1, h2.2.trans h1.2⟩) e⟩
theorem run_pred {q : E → Bool} {f : FuncId} {caps : Array Value} {x y : Operand} {at_ : Array TypeId} {e : E} (h : PredAt P c enc q f caps) (ho : o.op = .call { callee := .value x, args := #[y], argTypes := at_ }) (hx : ev s x = .func (.func f) #[] caps) (hy : ev s y = .agg (enc e).toArray) (w : World) : (execOp (ev s) o).run P w = .ok (.enter f (#[.agg (enc e).toArray] ++ caps)) w := by
  unfold execOp
  simp only [ho, resolve, Deferred.ofValue, invoke, Sem.run_bind, Sem.run_pure, Result.andThen_ok, List.map_toArray, List.map_cons, List.map_nil, hx, hy, h.call, Array.empty_append]
theorem kont_intro {α : Type} {P : α → Prop} {a : α} (h : P a) : ∃ q, a = q ∧ P q := ⟨a, rfl, h⟩
theorem Own.krow {T cap : Nat} {ba pre : Bs} {w : World} (ok : EncOk enc m) (own : Own enc m T l A cap ba) (hi : Inv c (pre ++ ba) w) : KRow (Cx.start w) enc m l A :=
  (own.row ok hi).1.at (hi.sub (List.sublist_append_left pre ba)).now.1
/-- An element of a list that grows, read. -/
theorem idxO {T cap : Nat} {ba pre : Bs} {i : Int} {e : E} {t : Nat} {x y : Operand} {ik : IntKind} (ok : EncOk enc m) (own : Own enc m T l A cap ba) (hi : idx l i = some e) (ho : o.op = .indexAddr t x y) (hx : ev s x = .slice A l.length cap) (hy : ev s y = .int ik i) (hm : elemOf P t = some m) :
    ∀ w, Inv c (pre ++ ba) w → (execOp (ev s) o).run P w = .ok (.value (.pointer (rp A (i.toNat * m + 0)))) w := fun w hw =>
  idxR (c := Cx.start w) (bs := []) (own.krow ok hw) hi ho hx hy hm w (Inv.start w)
theorem ldO {T cap : Nat} {ba pre : Bs} {i : Int} {e : E} {t off : Nat} {x : Operand} {v : Value} (ok : EncOk enc m) (own : Own enc m T l A cap ba) (hi : idx l i = some e) (ho : o.op = .load t x) (hx : ev s x = .pointer (rp A (i.toNat * m + off))) (h : ldv P t (enc e) off = some v) :
    ∀ w, Inv c (pre ++ ba) w → (execOp (ev s) o).run P w = .ok (.value v) w := fun w hw =>
  ldR (c := Cx.start w) (bs := []) (own.krow ok hw) hi ho hx h w (Inv.start w)
theorem flat_set (hm : ∀ e, (enc e).length = m) : ∀ (l : List E) (i : Nat) (e : E), i < l.length → (flat enc l).take (i * m) ++ enc e ++ (flat enc l).drop (i * m + m) = flat enc (l.set i e)
  | [], i, e, h => by simp at h
  | x :: l, 0, e, h => by
    simp only [flat, List.flatMap_cons, Nat.zero_mul, Nat.zero_add, List.take_zero, List.nil_append, List.set_cons_zero]
    rw [List.drop_left' (hm x)]
  | x :: l, i + 1, e, h => by
    have ih := flat_set hm l i e (by simpa using h)
    simp only [flat, List.flatMap_cons, List.set_cons_succ] at ih ⊢
    rw [← ih, show (i + 1) * m = (enc x).length + i * m by rw [hm, Nat.add_mul]; omega, List.take_length_add_append, show (enc x).length + i * m + m = (enc x).length + (i * m + m) by omega, List.drop_length_add_append]
    simp
theorem take_splice (cs es : List Value) (a k n : Nat) (he : es.length = k) (h1 : a + k ≤ n) (h2 : n ≤ cs.length) : (cs.take a ++ es ++ cs.drop (a + k)).take n = (cs.take n).take a ++ es ++ (cs.take n).drop (a + k) := by
  have hl : (cs.take a ++ es).length = a + k := by rw [List.length_append, List.length_take, he]; omega
  rw [List.take_append, hl, List.take_of_length_le (by omega), List.take_take, Nat.min_eq_left (by omega), List.drop_take]
/-- An element of a list that grows, written. -/
theorem LL.storeOwn {T cap : Nat} {ba : Bs} {i : Int} {e0 e : E} {t : Nat} {x y : Operand} (pre : Bs) (ok : EncOk enc m) (own : Own enc m T l A cap ba) (hi : idx l i = some e0) (hfit : fit ops N s o = true) (ho : o.op = .store t x y) (hx : ev s x = .pointer (rp A (i.toNat * m + 0))) (hy : ev s y = .agg (enc e).toArray) (ht : (P.info? t).map (·.size) = some m)
    (h : ∀ ba', Own enc m T (l.set i.toNat e) A cap ba' → LL P ops c N (put o.dst undef s) (pre ++ ba') Q rest) : LL P ops c N s (pre ++ ba) Q (o :: rest) := fun a w hf hw => by
  have hil : i.toNat < l.length := by
    unfold idx at hi; split at hi
    · cases hi
    · exact (List.getElem?_eq_some_iff.1 hi).1
  cases own with
  | nil _ h0 => subst h0; simp at hil
  | blk g _ hle hcm =>
    obtain ⟨hg0, ob, hob, cur, rfl, hcs, htake⟩ := hw.blk (g, ownObj T m cap l.length (flat enc l)) (List.mem_append_right _ List.mem_cons_self)
    obtain ⟨inf, hinf, hsz⟩ := Option.map_eq_some_iff.1 ht
    obtain ⟨h1, h2, h3⟩ := fit_spec hfit
    have hb : i.toNat * m + m ≤ l.length * m := by rw [← Nat.succ_mul]; exact Nat.mul_le_mul_right _ hil
    have hcl : cur.toList.length = cap * m := by rw [← hcs]; simp
    have hb2 : l.length * m ≤ cap * m := Nat.mul_le_mul_right _ hle
    have hst : stv P t cur.toList (i.toNat * m + 0) (ev s y) = some (cur.toList.take (i.toNat * m) ++ enc e ++ cur.toList.drop (i.toNat * m + m)) := by
      unfold stv
      rw [hinf, hy]
      have e1 : (Nat.beq (Value.agg (enc e).toArray).cells.size inf.size && Nat.ble (i.toNat * m + 0 + inf.size) cur.toList.length && (Value.agg (enc e).toArray).cells.toList.all (·.oneCell')) = true := by
        have e2 : (Value.agg (enc e).toArray).cells = (enc e).toArray := rfl
        simp only [e2, List.size_toArray, ok.len, hsz, hcl, Bool.and_eq_true, Nat.beq_eq, Nat.ble_eq, List.all_eq_true]
        exact ⟨⟨trivial, by omega⟩, ok.one e⟩
      dsimp only
      rw [if_pos e1, hsz]
      rfl
    refine wpList_step fun K hK => ?_
    rw [if_pos (hf.wants h1)]
    obtain ⟨w', hr, k1, k2, k3, k4, k5, k6⟩ := run_stv (w := w) (g := g) (T := T) hst (by simpa using hob)
    have hrun : (execOp (ev s) o).run P w = .ok .skip w' := by
      unfold execOp
      rw [ho]
      simp only [hx, rp, Nat.zero_add, Sem.run_bind, hr, Result.andThen_ok, Sem.run_pure]
    unfold Oper.wp
    rw [hf.execOp h2, hrun]
    have hil' : (pre ++ [(g, ownObj T m cap l.length (flat enc l))])[pre.length]? = some (g, ownObj T m cap l.length (flat enc l)) := by simp
    have ht' := hw.turn (w' := w') hil' (ψ := ownObj T m cap (l.set i.toNat e).length (flat enc (l.set i.toNat e))) k1 k2 k3 k4 k5 k6 ⟨_, rfl, by
        simp only [List.size_toArray, List.length_append, List.length_take, List.length_drop, ok.len, hcl]; omega, by
        rw [List.length_set, ← flat_set ok.len l _ e hil, ← htake]
        exact take_splice cur.toList (enc e) (i.toNat * m) m (l.length * m) (ok.len e) hb (by omega)⟩
    simp only [List.set_append_right _ _ (Nat.le_refl _), Nat.sub_self, List.set_cons_zero] at ht'
    exact hK _ _ (h _ (.blk g cap (by rw [List.length_set]; exact hle) hcm) _ _ (hf.put h3 _) ht')

theorem zeroCells_one {z : Array Value} {n : Nat} (h : z.toList.all (·.oneCell') = true) (hp : 0 < z.size) : ∀ u ∈ (Builtin.zeroCells z n).toList, u.oneCell' = true := fun u hu => by
  simp only [Builtin.zeroCells, Array.toList_map, List.mem_map] at hu
  obtain ⟨i, _, rfl⟩ := hu
  have hlt : i % z.size < z.size := Nat.mod_lt _ hp
  rw [getElem!_pos z (i % z.size) hlt]
  exact List.all_eq_true.1 h _ (by simp)
/-- What is left of a list that grows, once its end is cleared. -/
theorem LL.clearOwn {T cap bytes t : Nat} {ba : Bs} {i : Nat} {x : Operand} (pre : Bs) (ok : EncOk enc m) (el : ElemOk P t T m bytes) (own : Own enc m T l A cap ba) (hi : i ≤ l.length) (hfit : fit ops N s o = true)
    (ho : o.op = .call { callee := .builtin .clear, args := #[x], argTypes := #[t] }) (hx : ev s x = .slice (if cap = i then A else rp A (i * m)) (l.length - i) (cap - i)) (hz : ((P.info? T).bind (·.zero)).map (fun z => z.cells.toList.all (·.oneCell')) = some true)
    (h : ∀ ba', Own enc m T (l.take i) A cap ba' → LL P ops c N (put o.dst (.tuple #[]) s) (pre ++ ba') Q rest) : LL P ops c N s (pre ++ ba) Q (o :: rest) := fun a w hf hw => by
  obtain ⟨h1, h2, h3⟩ := fit_spec hfit
  obtain ⟨inf, z, hinf, hzz, hs, hb, hzs⟩ := el.hi
  have hz' : z.cells.toList.all (·.oneCell') = true := by simpa [hinf, hzz] using hz
  have hcell := zeroCells_one (n := l.length - i) hz' (by rw [hzs]; exact ok.pos)
  have fin : ∀ ba' w', Own enc m T (l.take i) A cap ba' → Inv c (pre ++ ba') w' → (Builtin.clear_ #[t] o.type #[ev s x]).run P w = .ok (.tuple #[]) w' → wpList P ops Q (o :: rest) a w := by
    intro ba' w' ow iw hr
    refine wpList_step fun K hK => ?_
    rw [if_pos (hf.wants h1)]
    have hrun : (execOp (ev s) o).run P w = .ok (.value (.tuple #[])) w' := by
      unfold execOp
      simp only [ho, resolve, invoke, builtin, Sem.run_bind, Sem.run_pure, Result.andThen_ok, List.map_toArray, List.map_cons, List.map_nil, hr]
    unfold Oper.wp
    rw [hf.execOp h2, hrun]
    exact hK _ _ (h _ ow _ _ (hf.put h3 _) iw)
  by_cases he : i = l.length
  · subst he
    refine fin ba w (by rw [List.take_length]; exact own) hw ?_
    rw [hx, Nat.sub_self]
    cases (if cap = l.length then A else rp A (l.length * m)) <;> simp [Builtin.clear_, run_underlying el.ht]
  cases own with
  | nil _ h0 => subst h0; simp at hi; simp at he; omega
  | blk g _ hle hcm =>
    obtain ⟨hg0, ob, hob, cur, rfl, hcs, htake⟩ := hw.blk (g, ownObj T m cap l.length (flat enc l)) (List.mem_append_right _ List.mem_cons_self)
    have hne : ¬ cap = i := by omega
    rw [if_neg hne] at hx
    have hcl : cur.toList.length = cap * m := by rw [← hcs]; simp
    have hzl : (Builtin.zeroCells z.cells (l.length - i)).toList.length = (l.length - i) * m := by simp [Builtin.zeroCells, hzs]
    have hb1 : i * m + (l.length - i) * m = l.length * m := by rw [← Nat.add_mul]; congr 1; omega
    have hb2 : l.length * m ≤ cap * m := Nat.mul_le_mul_right _ hle
    have hst := run_storeCells_at P g (i * m) T (Builtin.zeroCells z.cells (l.length - i)).toList 0 cur w (by simpa using hob) (by rw [hzl, hcs]; omega) hcell
    have hil' : (pre ++ [(g, ownObj T m cap l.length (flat enc l))])[pre.length]? = some (g, ownObj T m cap l.length (flat enc l)) := by simp
    have ht' := hw.turn (w' := w.setRow g (cur.toList.take (i * m + 0) ++ (Builtin.zeroCells z.cells (l.length - i)).toList ++ cur.toList.drop (i * m + 0 + (Builtin.zeroCells z.cells (l.length - i)).toList.length)).toArray) hil' (ψ := ownObj T m cap (l.take i).length (flat enc (l.take i))) rfl rfl rfl (by simp) (fun k hk => setRow_other w g k _ hk) (setRow_heap w g cur _ T _ (by simpa using hob)) ⟨_, rfl, by
        simp only [List.size_toArray, List.length_append, List.length_take, List.length_drop, hzl, hcl]; omega, by
        rw [List.length_take, Nat.min_eq_left hi, Nat.add_zero, List.append_assoc, List.take_append_of_le_length (by rw [List.length_take, hcl]; omega), List.take_take, Nat.min_self]
        have : cur.toList.take (i * m) = (flat enc l).take (i * m) := by rw [← htake, List.take_take, Nat.min_eq_left (by omega)]
        rw [this]
        have hfl : flat enc l = flat enc (l.take i) ++ flat enc (l.drop i) := by rw [← flat_append, List.take_append_drop]
        rw [hfl, List.take_append_of_le_length (by rw [flat_length ok.len, List.length_take, Nat.min_eq_left hi]; exact Nat.le_refl _), List.take_of_length_le (by rw [flat_length ok.len, List.length_take, Nat.min_eq_left hi]; exact Nat.le_refl _)]⟩
    simp only [List.set_append_right _ _ (Nat.le_refl _), Nat.sub_self, List.set_cons_zero] at ht'
    refine fin _ _ (.blk g cap (by rw [List.length_take]; omega) hcm) ht' ?_
    obtain ⟨k, hk⟩ : ∃ k, l.length - i = k + 1 := ⟨l.length - i - 1, by omega⟩
    rw [hx]
    simp only [rp, Nat.zero_add]
    have hzero : (zeroValue T).run P w = .ok z w := by simp [zeroValue, typeInfo, hinf, hzz, program, Sem.run]
    rw [hk] at hst ⊢
    simp [Builtin.clear_, run_underlying el.ht, hzero, hst]
/-- The rest of a list from an element on, and the list up to one. -/
theorem run_from {t cap i bytes T : Nat} {x y : Operand} (el : ElemOk P t T m bytes) (ho : o.op = .slice t x (some y) none none) (hx : ev s x = .slice A l.length cap) (hy : ev s y = .int .i64 (i : Int)) (hi : i ≤ l.length) (hs : ∀ a, A = some a → a.spot = none) :
    ∀ w, Inv c bs w → (execOp (ev s) o).run P w = .ok (.value (.slice (if cap = i then A else rp A (i * m)) (l.length - i) (cap - i))) w := fun w _ => by
  obtain ⟨inf, z, hinf, hzz, hsz, hb, hzs⟩ := el.hi
  have he : P.elem t = T := by simp [Program.elem, el.ht]
  have hu : P.underlying t = some (.slice (P.elem t)) := by rw [he]; exact el.ht
  have h1 := run_slice_l (P := P) (t := t) (a := A) (len := l.length) (cap := cap) w hu .i64 (i : Int) (by omega) (by omega)
  have h2 : (sizeOf (P.elem t)).run P w = .ok m w := by rw [he]; simp [sizeOf, typeInfo, hinf, hsz, program, Sem.run]
  have h3 : A.map (·.add (i * m)) = rp A (i * m) := by
    cases A with
    | none => rfl
    | some a =>
      have := hs a rfl
      simp only [Option.map_some, rp, Addr.add]
      split
      · rename_i h0; rw [h0]; cases a; simp_all
      · rfl
  unfold execOp
  rw [ho]
  simp [hx, hy, h1, h2, sliced, h3, Instr.sliceAt, run_underlying el.ht]
theorem run_to {t cap i bytes T : Nat} {x y : Operand} (el : ElemOk P t T m bytes) (ho : o.op = .slice t x none (some y) none) (hx : ev s x = .slice A l.length cap) (hy : ev s y = .int .i64 (i : Int)) (hi : i ≤ cap) (hs : ∀ a, A = some a → a.spot = none) :
    ∀ w, Inv c bs w → (execOp (ev s) o).run P w = .ok (.value (.slice A i cap)) w := fun w _ => by
  obtain ⟨inf, z, hinf, hzz, hsz, hb, hzs⟩ := el.hi
  have he : P.elem t = T := by simp [Program.elem, el.ht]
  have hu : P.underlying t = some (.slice (P.elem t)) := by rw [he]; exact el.ht
  have h1 := run_slice_h (P := P) (t := t) (a := A) (len := l.length) (cap := cap) w hu .i64 (i : Int) (by omega) (by omega)
  have h2 : (sizeOf (P.elem t)).run P w = .ok m w := by rw [he]; simp [sizeOf, typeInfo, hinf, hsz, program, Sem.run]
  unfold execOp
  rw [ho]
  simp [hx, hy, h1, h2, sliced, Instr.sliceAt, run_underlying el.ht]
  intro _
  cases A <;> simp [Addr.add]
/-- A function walked from a world of a given form. -/
theorem callsI {f : FuncId} {fn : Func} {x : Code} {args : List Value} {W : World} {R : Ending → World → Prop} (hi : Inv c bs W) (hf : P.funcs[f]? = some fn) (hb : fn.body = some x)
    (hN : fn.ntmps = N) (hle : Nat.ble args.length N = true) (h : J P c N (startS args 0) bs (bodyPost P fn R) x) : Calls P f args.toArray W R :=
  calls_of_wp hf hb (h _ _ ⟨by simp at hle; simp [hN]; omega, rfl, fun i v hv => by
    obtain ⟨_, h2⟩ := get_startS args 0 i v hv
    rw [Nat.sub_zero] at h2
    have hlt : i < args.length := (List.getElem?_eq_some_iff.1 h2).1
    rw [Array.getElem?_append_left (by simpa using hlt)]; simpa using h2⟩ hi)
/-- What a call has made is named beside what was. -/
theorem Inv.join {w w1 : World} {ba : Bs} (h : Inv c bs w) (h1 : Inv (Cx.start w) ba w1) : Inv c (bs ++ ba) w1 := by
  have hb : Inv c bs w1 := h.call h1.below
  refine ⟨hb.below, hb.keep, fun x hx => ?_, List.pairwise_append.2 ⟨h.apart, h1.apart, fun x hx y hy e => ?_⟩⟩
  · rcases List.mem_append.1 hx with hx | hx
    · exact hb.blk x hx
    · obtain ⟨⟨h2, h3⟩, h4⟩ := h1.blk x hx
      exact ⟨⟨Nat.le_trans h.below.size h2, fun hF => by have := (h.keep _ hF).1; have h2' : w.heap.size ≤ x.1 := h2; omega⟩, h4⟩
  · have h2 := h.lt hx
    have h3 : w.heap.size ≤ y.1 := (h1.blk y hy).1.1
    omega
/-- All that is named is only read from here on. -/
theorem J.now {x : Code} (h : ∀ R F, Le c ⟨c.W, R, F⟩ → (∀ b, (∃ y ∈ bs, y.1 = b) → F b) → (∀ y ∈ bs, ∃ o, R.heap[y.1]? = some o ∧ y.2 o) → J P ⟨c.W, R, F⟩ N s [] Q x) : J P c N s bs Q x := fun a w hf hi => by
  have hp := hi.sub (List.nil_sublist bs)
  refine h _ _ hp.now.2 (fun b hb => ?_) (fun y hy => (hi.blk y hy).2) a w hf hp.now.1
  obtain ⟨y, hy, rfl⟩ := hb
  exact ⟨hi.lt hy, fun x hx => by cases hx⟩
/-! ### A region is left in one state, whatever order came -/
theorem Inv.perm {bs' : Bs} {w : World} (h : Inv c bs w) (hp : bs.Perm bs') : Inv c bs' w :=
  ⟨h.below, h.keep, fun x hx => h.blk x (hp.mem_iff.2 hx), (hp.pairwise_iff (fun {_ _} hne => Ne.symm hne)).1 h.apart⟩
theorem J.cut {α : Type} {x : Code} (S' : α → S) (B' : α → Bs) (h1 : J P c N s bs (fun e a w => e = .normal ∧ ∃ q, Fr N (S' q) a ∧ Inv c (B' q) w) x) (h2 : ∀ q, NN c N (S' q) (B' q) Q .normal) : J P c N s bs Q x := J.mono (fun e a w ⟨he, q, hf, hi⟩ => by subst he; exact h2 q a w hf hi) h1
theorem NN.cut {α : Type} {S' : α → S} {B' : α → Bs} (q : α) (hp : bs.Perm (B' q)) (hs : s = S' q) : NN c N s bs (fun e a w => e = .normal ∧ ∃ q, Fr N (S' q) a ∧ Inv c (B' q) w) .normal := fun _ _ hf hi => ⟨rfl, q, hs ▸ hf, hi.perm hp⟩
end
end Go.Saw

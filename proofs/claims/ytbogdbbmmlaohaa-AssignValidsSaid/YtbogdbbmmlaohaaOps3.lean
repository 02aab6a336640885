/- More operations: maps, lists of fixed length, lists of lists, calls that write. -/
import Derived.Test.YtbogdbbmmlaohaaMaps
import Derived.Laws.MakeOwn
import Derived.Test.YtbogdbbmmlaohaaOpen2
namespace Go.Saw
set_option linter.unusedVariables false
set_option linter.unusedSimpArgs false
open Go.RowKit
section
variable {P : Program} {ops : Array Oper} {c : Cx} {N : Nat} {s : S} {bs : Bs} {o : Oper} {rest : List Oper} {Q : Exit → Act → World → Prop}
variable {Z : World → Prop} {fuel : Nat} {listed : Array Bool}
variable {α : Type} {ev1 : α → Value}
def eI (n : Int) : Value := .int .i64 n
def eB (b : Bool) : Value := .bool b
theorem Inv.turned {w w' : World} (h : Inv c bs w) {i g : Nat} {φ ψ : Obj → Prop} (hi : bs[i]? = some (g, φ)) {ob : Obj} (ht : Turned w w' g ob) (hp : ψ ob) : Inv c (bs.set i (g, ψ)) w' :=
  h.turn hi ht.os ht.tape ht.out ht.size ht.rest ht.blk hp
theorem Inv.mp {w : World} (h : Inv c bs w) {i g : Nat} {φ : Obj → Prop} (hi : bs[i]? = some (g, φ)) : ∃ ob, w.heap[g]? = some ob ∧ φ ob := (h.blk _ (List.mem_of_getElem? hi)).2
/-- What is known of a block that is kept. -/
def BlkAt (c : Cx) (g : Nat) (φ : Obj → Prop) : Prop := c.F g ∧ ∃ ob, c.R.heap[g]? = some ob ∧ φ ob
theorem BlkAt.le {c' : Cx} {g : Nat} {φ : Obj → Prop} (h : BlkAt c g φ) (le : Le c c') : BlkAt c' g φ := by
  obtain ⟨h1, ob, h2, h3⟩ := h
  exact ⟨le.F g h1, ob, (le.R g h1).trans h2, h3⟩
theorem BlkAt.at {w : World} {g : Nat} {φ : Obj → Prop} (h : BlkAt c g φ) (hi : Inv c bs w) : BlkAt (Cx.start w) g φ := by
  obtain ⟨h1, ob, h2, h3⟩ := h
  exact ⟨(hi.keep g h1).1, ob, (hi.keep g h1).2.trans h2, h3⟩
theorem Inv.blkAt {w : World} (h : Inv c bs w) {i g : Nat} {φ : Obj → Prop} (hi : bs[i]? = some (g, φ)) : BlkAt (Cx.start w) g φ := by
  obtain ⟨ob, h1, h2⟩ := h.mp hi
  exact ⟨lt_of_some h1, ob, h1, h2⟩
/-! ### Maps -/
theorem run_makeMapOp {t : TypeId} (ho : o.op = .makeMap t none) (w : World) : (execOp (ev s) o).run P w = .ok (.value (.map (some w.heap.size))) (w.alloc (.map #[] 0)) := by
  unfold execOp
  rw [ho]
  rfl
theorem Inv.newMap {w : World} (h : Inv c bs w) (ev1 : α → Value) : Inv c ((w.heap.size, mpO ev1 (fun _ => none)) :: bs) (w.alloc (.map #[] 0)) :=
  h.new ⟨#[], 0, [], rfl, rfl, List.Pairwise.nil, rfl⟩
theorem LL.makeMap (ev1 : α → Value) (t : TypeId) (hfit : fit ops N s o = true) (ho : o.op = .makeMap t none)
    (h : ∀ g, LL P ops c N (put o.dst (.map (some g)) s) ((g, mpO ev1 (fun _ => none)) :: bs) Q rest) : LL P ops c N s bs Q (o :: rest) := fun a w hf hi => by
  obtain ⟨h1, h2, h3⟩ := fit_spec hfit
  refine wpList_step fun K hK => ?_
  rw [if_pos (hf.wants h1)]
  unfold Oper.wp
  rw [hf.execOp h2, run_makeMapOp ho]
  exact hK _ _ (h _ _ _ (hf.put h3 _) (hi.newMap ev1))
theorem HS.makeMap {i : Nat} (ev1 : α → Value) (t : TypeId) (hi : ops[i]? = some o) (hfit : fit ops N s o = true) (ho : o.op = .makeMap t none) (hs : ∀ w, Inv c bs w → Z w)
    (h : ∀ g, HH P ops Z c N (put o.dst (.map (some g)) s) ((g, mpO ev1 (fun _ => none)) :: bs) Q fuel (listed.setIfInBounds i true)) : HS P ops Z c N s bs Q fuel listed i := HS.of hi hfit fun K Q' hK a w hf hw => by
  obtain ⟨h1, h2, h3⟩ := fit_spec hfit
  unfold Oper.wp
  rw [hf.execOp h2, run_makeMapOp ho]
  have hw' := hw.newMap ev1
  exact hK _ _ _ _ _ rfl hw' (hs _ (hw'.sub (List.sublist_cons_self _ _))) (h _) _ (hf.put h3 _)
theorem LL.mapUpdate {T : Int → Option α} {n : Int} (i g : Nat) (v : α) {t : TypeId} {x y z : Operand} {zv : Value} {bs' : Bs} (hbs : bs.set i (g, mpO ev1 (upd T n v)) = bs') (ht : MapTy P t zv) (hfit : fit ops N s o = true) (ho : o.op = .mapUpdate t x y z) (hx : ev s x = .map (some g)) (hy : ev s y = .int .i64 n) (hz : ev s z = ev1 v) (hi : bs[i]? = some (g, mpO ev1 T))
    (h : LL P ops c N (put o.dst undef s) bs' Q rest) : LL P ops c N s bs Q (o :: rest) := fun a w hf hw => by
  subst hbs
  obtain ⟨h1, h2, h3⟩ := fit_spec hfit
  refine wpList_step fun K hK => ?_
  rw [if_pos (hf.wants h1)]
  obtain ⟨ob, hob, hm⟩ := hw.mp hi
  obtain ⟨w', ob', hr, htn, hm'⟩ := run_mapUpdate ht hob hm n v
  have hrun : (execOp (ev s) o).run P w = .ok .skip w' := by
    unfold execOp
    rw [ho]
    simp only [hx, hy, hz, Sem.run_bind, hr, Result.andThen_ok, Sem.run_pure]
  unfold Oper.wp
  rw [hf.execOp h2, hrun]
  exact hK _ _ (h _ _ (hf.put h3 _) (hw.turned hi htn hm'))
theorem LL.delete {T : Int → Option α} {n : Int} (i g : Nat) {t u : TypeId} {x y : Operand} {zv : Value} {bs' : Bs} (hbs : bs.set i (g, mpO ev1 (del T n)) = bs') (ht : MapTy P t zv) (hfit : fit ops N s o = true) (ho : o.op = .call { callee := .builtin .delete, args := #[x, y], argTypes := #[t, u] }) (hx : ev s x = .map (some g)) (hy : ev s y = .int .i64 n) (hi : bs[i]? = some (g, mpO ev1 T))
    (h : LL P ops c N (put o.dst (.tuple #[]) s) bs' Q rest) : LL P ops c N s bs Q (o :: rest) := fun a w hf hw => by
  subst hbs
  obtain ⟨h1, h2, h3⟩ := fit_spec hfit
  refine wpList_step fun K hK => ?_
  rw [if_pos (hf.wants h1)]
  obtain ⟨ob, hob, hm⟩ := hw.mp hi
  obtain ⟨w', ob', hr, htn, hm'⟩ := run_delete (ts := #[t, u]) (u := o.type) ht rfl hob hm n
  have hrun : (execOp (ev s) o).run P w = .ok (.value (.tuple #[])) w' := by
    unfold execOp
    simp only [ho, resolve, invoke, builtin, Sem.run_bind, Sem.run_pure, Result.andThen_ok, List.map_toArray, List.map_cons, List.map_nil, hx, hy, hr]
  unfold Oper.wp
  rw [hf.execOp h2, hrun]
  exact hK _ _ (h _ _ (hf.put h3 _) (hw.turned hi htn hm'))
/-- An entry of a map, read. -/
theorem run_lookupOp {T : Int → Option α} {n : Int} {g : Nat} {t : TypeId} {x y : Operand} {zv : Value} {ck : Bool} {v : Value} {w : World} (ht : MapTy P t zv) (ho : o.op = .lookup t x y ck) (hx : ev s x = .map (some g)) (hy : ev s y = .int .i64 n) (hm : ∃ ob, w.heap[g]? = some ob ∧ mpO ev1 T ob) (hv : v = if ck then .tuple #[(T n).elim zv ev1, .bool (T n).isSome] else (T n).elim zv ev1) :
    (execOp (ev s) o).run P w = .ok (.value v) w := by
  obtain ⟨ob, h1, h2⟩ := hm
  unfold execOp
  simp only [ho, hx, hy, Sem.run_bind, run_lookup ht h1 h2, Result.andThen_ok, Sem.run_pure, hv]
theorem lkO {T : Int → Option α} {n : Int} {t : TypeId} {x y : Operand} {zv : Value} {ck : Bool} {v : Value} (i g : Nat) (ht : MapTy P t zv) (ho : o.op = .lookup t x y ck) (hx : ev s x = .map (some g)) (hy : ev s y = .int .i64 n) (hi : bs[i]? = some (g, mpO ev1 T)) (hv : v = if ck then .tuple #[(T n).elim zv ev1, .bool (T n).isSome] else (T n).elim zv ev1) :
    ∀ w, Inv c bs w → (execOp (ev s) o).run P w = .ok (.value v) w := fun w hw => run_lookupOp ht ho hx hy (hw.mp hi) hv
theorem lkW {T : Int → Option α} {n : Int} {g : Nat} {t : TypeId} {x y : Operand} {zv : Value} {ck : Bool} {v : Value} (ht : MapTy P t zv) (ho : o.op = .lookup t x y ck) (hx : ev s x = .map (some g)) (hy : ev s y = .int .i64 n) (hb : BlkAt c g (mpO ev1 T)) (hv : v = if ck then .tuple #[(T n).elim zv ev1, .bool (T n).isSome] else (T n).elim zv ev1) :
    ∀ w, Inv c bs w → (execOp (ev s) o).run P w = .ok (.value v) w := fun w hw => run_lookupOp ht ho hx hy (hb.at hw).2 hv
theorem elimI (x : Option Int) : x.elim (.int .i64 0) eI = .int .i64 (x.getD 0) := by cases x <;> rfl
theorem elimB (x : Option Bool) : x.elim (.bool false) eB = .bool (x.getD false) := by cases x <;> rfl
/-! ### Calls that write -/
theorem LL.callM (f : Nat) (as : Array Value) (v : Value) (bs' : Bs) (hfit : fit ops N s o = true) (hr : ∀ w, (execOp (ev s) o).run P w = .ok (.enter f as) w)
    (hv : ∀ w, Inv c bs w → Calls P f as w (fun e w' => e = .returned v ∧ Inv c bs' w'))
    (h : LL P ops c N (put o.dst v s) bs' Q rest) : LL P ops c N s bs Q (o :: rest) :=
  LL.enter f as hfit hr fun w hw => (hv w hw).mono fun e w' ⟨he, hb⟩ => ⟨v, he, fun a hf => h a w' hf hb⟩
theorem HS.callM {i : Nat} (f : Nat) (as : Array Value) (v : Value) (bs' : Bs) (hi : ops[i]? = some o) (hfit : fit ops N s o = true) (hr : ∀ w, (execOp (ev s) o).run P w = .ok (.enter f as) w) (hs : ∀ w, Inv c bs' w → Z w)
    (hv : ∀ w, Inv c bs w → Calls P f as w (fun e w' => e = .returned v ∧ Inv c bs' w'))
    (h : HH P ops Z c N (put o.dst v s) bs' Q fuel (listed.setIfInBounds i true)) : HS P ops Z c N s bs Q fuel listed i :=
  HS.enter f as hi hfit hr fun w hw => (hv w hw).mono fun _ w' ⟨he, hb⟩ => ⟨v, bs', he, hb, hs _ hb, h⟩
theorem LL.perm {bs' : Bs} {l : List Oper} (hp : bs.Perm bs') (h : LL P ops c N s bs' Q l) : LL P ops c N s bs Q l := fun a w hf hi => h a w hf (hi.perm hp)
theorem HH.perm {bs' : Bs} (hp : bs.Perm bs') (h : HH P ops Z c N s bs' Q fuel listed) : HH P ops Z c N s bs Q fuel listed := fun a w hf hi => h a w hf (hi.perm hp)
theorem J.perm {bs' : Bs} {x : Code} (hp : bs.Perm bs') (h : J P c N s bs' Q x) : J P c N s bs Q x := fun a w hf hi => h a w hf (hi.perm hp)
theorem LL.sub {bs' : Bs} {l : List Oper} (hs : bs'.Sublist bs) (h : LL P ops c N s bs' Q l) : LL P ops c N s bs Q l := fun a w hf hi => h a w hf (hi.sub hs)
/-- The first block is only read from here on. -/
theorem J.keep1 {g : Nat} {φ : Obj → Prop} {x : Code} (h : ∀ R F, Le c ⟨c.W, R, F⟩ → BlkAt ⟨c.W, R, F⟩ g φ → c.W.heap.size ≤ g → J P ⟨c.W, R, F⟩ N s bs Q x) : J P c N s ((g, φ) :: bs) Q x := fun a w hf hi => by
  have hp := hi.sub (List.sublist_cons_self (g, φ) bs)
  obtain ⟨⟨h1, _⟩, ob, h2, h3⟩ := hi.blk _ List.mem_cons_self
  refine h _ _ hp.now.2 ⟨⟨lt_of_some h2, fun y hy e => ?_⟩, ob, h2, h3⟩ h1 a w hf hp.now.1
  exact (List.pairwise_cons.1 hi.apart).1 y hy e.symm
/-! ### Lists of fixed length -/
variable {E : Type} {e1 : E → Value} {l : List E}
theorem idx_some {l : List E} {i : Int} {x : E} (h : idx l i = some x) : 0 ≤ i ∧ i.toNat < l.length ∧ l[i.toNat]? = some x := by
  unfold idx at h
  split at h
  · cases h
  · exact ⟨by omega, (List.getElem?_eq_some_iff.1 h).1, h⟩
theorem flat_one1 : ∀ (l : List E), flat (fun x => [e1 x]) l = l.map e1
  | [] => rfl
  | x :: r => by
    have ih := flat_one1 r
    unfold flat at ih ⊢
    rw [List.flatMap_cons, ih]; rfl
theorem krowL {c : Cx} {g T : Nat} (h : BlkAt c g (cl (l.map e1) T)) : KRow c (fun x => [e1 x]) 1 l (some ⟨g, 0, none⟩) := by
  obtain ⟨hF, ob, h1, h2⟩ := h
  refine KRow.of_cells (enc := fun x => [e1 x]) (m := 1) (fun _ => rfl) hF fun j v hv => ?_
  rw [flat_one1] at hv
  exact cells_cell (T := T) (by rw [h1, h2]) j v hv
theorem idxL {i : Int} {x : E} {t : Nat} {a b : Operand} {ik : IntKind} {n T : Nat} (k g : Nat) (hk : bs[k]? = some (g, cl (l.map e1) T)) (hi : idx l i = some x) {n0 : Nat} (hn : l.length = n0) (ho : o.op = .indexAddr t a b) (hx : ev s a = .slice (some ⟨g, 0, none⟩) n0 n) (hy : ev s b = .int ik i) (hm : elemOf P t = some 1) :
    ∀ w, Inv c bs w → (execOp (ev s) o).run P w = .ok (.value (.pointer (rp (some ⟨g, 0, none⟩) (i.toNat * 1 + 0)))) w := fun w hw =>
  idxR (c := Cx.start w) (bs := []) (krowL (hw.blkAt hk)) hi ho (by rw [hn]; exact hx) hy hm w (Inv.start w)
theorem ldL {i : Int} {x : E} {t : Nat} {a : Operand} {T : Nat} (k g : Nat) (hk : bs[k]? = some (g, cl (l.map e1) T)) (hi : idx l i = some x) (ho : o.op = .load t a) (hx : ev s a = .pointer (rp (some ⟨g, 0, none⟩) (i.toNat * 1 + 0))) (h : ldv P t [e1 x] 0 = some (e1 x)) :
    ∀ w, Inv c bs w → (execOp (ev s) o).run P w = .ok (.value (e1 x)) w := fun w hw =>
  ldR (c := Cx.start w) (bs := []) (krowL (hw.blkAt hk)) hi ho hx h w (Inv.start w)
theorem stv_at {t : Nat} {i : Nat} {y : E} {inf : TypeInfo} (hinf : P.info? t = some inf) (hsz : inf.size = 1) (hone : ∀ e, (e1 e).oneCell' = true) (hcells : ∀ e, (e1 e).cells = #[e1 e]) (hil : i < l.length) : stv P t (l.map e1) i (e1 y) = some ((l.set i y).map e1) := by
  unfold stv
  rw [hinf]
  have e2 : (Nat.beq (e1 y).cells.size inf.size && Nat.ble (i + inf.size) (l.map e1).length && (e1 y).cells.toList.all (·.oneCell')) = true := by
    simp only [hcells, List.length_map, hsz, Bool.and_eq_true, Nat.beq_eq, Nat.ble_eq]
    refine ⟨⟨by simp, by omega⟩, by simp [hone]⟩
  dsimp only
  rw [if_pos e2, hsz, hcells]
  congr 1
  rw [List.map_set, List.set_eq_take_append_cons_drop, if_pos (by simpa using hil)]
  simp
structure One (P : Program) (t : Nat) (e1 : E → Value) : Prop where
  size : (P.info? t).map (·.size) = some 1
  one : ∀ e, (e1 e).oneCell' = true
  cells : ∀ e, (e1 e).cells = #[e1 e]
theorem LL.storeL {i : Int} {x y : E} {t : Nat} {a b : Operand} {T : Nat} {bs' : Bs} (k g : Nat) (ok : One P t e1) (hbs : bs.set k (g, cl ((l.set i.toNat y).map e1) T) = bs') (hk : bs[k]? = some (g, cl (l.map e1) T)) (hi : idx l i = some x) (hfit : fit ops N s o = true) (ho : o.op = .store t a b) (hx : ev s a = .pointer (rp (some ⟨g, 0, none⟩) (i.toNat * 1 + 0))) (hy : ev s b = e1 y)
    (h : LL P ops c N (put o.dst undef s) bs' Q rest) : LL P ops c N s bs Q (o :: rest) := by
  obtain ⟨inf, hinf, hsz⟩ := Option.map_eq_some_iff.1 ok.size
  obtain ⟨h0, h1, h2⟩ := idx_some hi
  refine LL.store k g i.toNat t a b ((l.set i.toNat y).map e1) hbs hfit ho ?_ hk ?_ h
  · rw [hx]; simp [rp]
  · rw [hy]; exact stv_at hinf hsz ok.one ok.cells h1
/-- A list of fixed length among the results. -/
theorem Inv.retL {w : World} (h : Inv c bs w) {i g T : Nat} {enc : E → List Value} (hi : bs[i]? = some (g, cl (l.map e1) T)) (he : enc = fun x => [e1 x]) {val : Option Addr → Nat → Value} {v : Value} (cp : Nat) (e : v = val (some ⟨g, 0, none⟩) cp) : RetR c.W enc 1 l val (.returned v) w := by
  subst he
  refine ⟨_, cp, by rw [e], h.below, krowL (h.blkAt hi), fun b q hA _ => ?_⟩
  cases hA
  exact (h.blk _ (List.mem_of_getElem? hi)).1.1
/-- A list that 'make' makes: none, where no memory would bear it. -/
def mk (n : Int) (x : E) : Option (List E) := if 0 ≤ n ∧ n ≤ 17592186044416 then some (List.replicate n.toNat x) else none
structure MkOk (P : Program) (t T : TypeId) (z : Value) : Prop where
  h : ∃ i, P.underlying t = some (.slice T) ∧ P.info? T = some i ∧ i.zero = some z ∧ i.size = 1 ∧ i.bytes ≤ 8 ∧ z.cells = #[z]
theorem cells_rep (z : Value) (n : Nat) : (madeCells #[z] n) = (List.replicate n z).toArray := by
  apply Array.ext'
  unfold madeCells
  simp only [Array.toList_map, Array.toList_range]
  rw [List.map_congr_left (g := fun _ => z)]
  · simp [List.map_const']
  · intro a _
    simp [Nat.mod_one]
theorem run_mk {t T : TypeId} {n : Int} {x : E} {ll : List E} (ok : MkOk P t T (e1 x)) (hm : mk n x = some ll) {a b : Operand} (ho : o.op = .makeSlice t a b) (ha : ev s a = .int .i64 n) (hb : ev s b = .int .i64 n) (w : World) :
    (execOp (ev s) o).run P w = .ok (.value (.slice (some ⟨w.heap.size, 0, none⟩) ll.length ll.length)) (w.alloc (.cells (ll.map e1).toArray T)) := by
  obtain ⟨i, h1, h2, h3, h4, h5, h6⟩ := ok.h
  unfold mk at hm
  split at hm
  · rename_i hn
    cases hm
    have hb' : (i.bytes : Int) * n ≤ 281474976710656 := by
      have : (i.bytes : Int) * n ≤ 8 * n := Int.mul_le_mul_of_nonneg_right (by omega) hn.1
      omega
    have := run_make (P := P) w t T i (e1 x) h1 h2 h3 .i64 .i64 n n hn.1 (Int.le_refl _) hb' (by omega)
    unfold execOp
    rw [ho]
    simp only [ha, hb, Sem.run_bind, this, Result.andThen_ok, Sem.run_pure, h6, h4, Nat.mul_one, cells_rep, List.length_replicate, List.map_replicate]
  · cases hm
theorem LL.mk {t T : TypeId} {n : Int} {x : E} {ll : List E} {a b : Operand} (ok : MkOk P t T (e1 x)) (hm : Saw.mk n x = some ll) (hfit : fit ops N s o = true) (ho : o.op = .makeSlice t a b) (ha : ev s a = .int .i64 n) (hb : ev s b = .int .i64 n)
    (h : ∀ g, LL P ops c N (put o.dst (.slice (some ⟨g, 0, none⟩) ll.length ll.length) s) ((g, cl (ll.map e1) T) :: bs) Q rest) : LL P ops c N s bs Q (o :: rest) := fun a w hf hi => by
  obtain ⟨h1, h2, h3⟩ := fit_spec hfit
  refine wpList_step fun K hK => ?_
  rw [if_pos (hf.wants h1)]
  unfold Oper.wp
  rw [hf.execOp h2, run_mk ok hm ho ha hb]
  exact hK _ _ (h _ _ _ (hf.put h3 _) (hi.alloc _ _))
theorem HS.mk {i : Nat} {t T : TypeId} {n : Int} {x : E} {ll : List E} {a b : Operand} (ok : MkOk P t T (e1 x)) (hm : Saw.mk n x = some ll) (hi : ops[i]? = some o) (hfit : fit ops N s o = true) (ho : o.op = .makeSlice t a b) (ha : ev s a = .int .i64 n) (hb : ev s b = .int .i64 n) (hs : ∀ w, Inv c bs w → Z w)
    (h : ∀ g, HH P ops Z c N (put o.dst (.slice (some ⟨g, 0, none⟩) ll.length ll.length) s) ((g, cl (ll.map e1) T) :: bs) Q fuel (listed.setIfInBounds i true)) : HS P ops Z c N s bs Q fuel listed i := HS.of hi hfit fun K Q' hK a w hf hw => by
  obtain ⟨h1, h2, h3⟩ := fit_spec hfit
  unfold Oper.wp
  rw [hf.execOp h2, run_mk ok hm ho ha hb]
  have hw' := hw.alloc (ll.map e1) T
  exact hK _ _ _ _ _ rfl hw' (hs _ (hw'.sub (List.sublist_cons_self _ _))) (h _) _ (hf.put h3 _)
/-! ### Lists of lists -/
variable {enc : E → List Value} {m : Nat} {ll : List (List E)} {A : Option Addr}
def encS (x : List E × Option Addr × Nat) : List Value := [.slice x.2.1 x.1.length x.2.2]
/-- What is known of a list of lists in memory that is kept. -/
def KRow2 (c : Cx) (enc : E → List Value) (m : Nat) (ll : List (List E)) (A : Option Addr) : Prop :=
  ∃ o : List (List E × Option Addr × Nat), o.map (·.1) = ll ∧ KRow c encS 1 o A ∧ ∀ x ∈ o, KRow c enc m x.1 x.2.1
theorem KRow2.le {c' : Cx} (k : KRow2 c enc m ll A) (h : Le c c') : KRow2 c' enc m ll A := by
  obtain ⟨o, h1, h2, h3⟩ := k
  exact ⟨o, h1, h2.le h, fun x hx => (h3 x hx).le h⟩
theorem KRow2.at {w : World} (k : KRow2 c enc m ll A) (hi : Inv c bs w) : KRow2 (Cx.start w) enc m ll A := by
  obtain ⟨o, h1, h2, h3⟩ := k
  exact ⟨o, h1, h2.at hi, fun x hx => (h3 x hx).at hi⟩
theorem KRow2.nil : KRow2 c enc m ([] : List (List E)) A := ⟨[], rfl, KRow.nil, by simp⟩
theorem idx_map {o : List (List E × Option Addr × Nat)} {i : Int} {r : List E} (h : idx (o.map (·.1)) i = some r) : ∃ A' cp, idx o i = some (r, A', cp) := by
  obtain ⟨h0, h1, h2⟩ := idx_some h
  rw [List.getElem?_map] at h2
  obtain ⟨x, hx, rfl⟩ := Option.map_eq_some_iff.1 h2
  refine ⟨x.2.1, x.2.2, ?_⟩
  unfold idx
  rw [if_neg (by omega), hx]
theorem idx_mem {l : List E} {i : Int} {x : E} (h : idx l i = some x) : x ∈ l := List.mem_of_getElem? (idx_some h).2.2
/-- A row of a list of lists: where it lies. -/
theorem KRow2.row {i : Int} {r : List E} (k : KRow2 c enc m ll A) (h : idx ll i = some r) : ∃ A' cp, KRow c enc m r A' ∧ ∀ {P : Program} {s : S} {bs : Bs} {o : Oper} {t : Nat} {x : Operand}, o.op = .load t x → ev s x = .pointer (rp A (i.toNat * 1 + 0)) → ldv P t [.slice A' r.length cp] 0 = some (.slice A' r.length cp) →
    ∀ w, Inv c bs w → (execOp (ev s) o).run P w = .ok (.value (.slice A' r.length cp)) w := by
  obtain ⟨o, rfl, h2, h3⟩ := k
  obtain ⟨A', cp, h'⟩ := idx_map h
  exact ⟨A', cp, h3 _ (idx_mem h'), fun ho hx hl => ldR h2 h' ho hx hl⟩
theorem idx2 {i : Int} {r : List E} {t cp : Nat} {x y : Operand} {ik : IntKind} (k : KRow2 c enc m ll A) (hi : idx ll i = some r) (ho : o.op = .indexAddr t x y) (hx : ev s x = .slice A ll.length cp) (hy : ev s y = .int ik i) (hm : elemOf P t = some 1) :
    ∀ w, Inv c bs w → (execOp (ev s) o).run P w = .ok (.value (.pointer (rp A (i.toNat * 1 + 0)))) w := by
  obtain ⟨oo, rfl, h2, h3⟩ := k
  obtain ⟨A', cp', h'⟩ := idx_map hi
  rw [List.length_map] at hx
  exact idxR h2 h' ho hx hy hm
/-- A list of lists that a call has made. -/
def NRow2 (w w' : World) (enc : E → List Value) (m : Nat) (ll : List (List E)) (A : Option Addr) : Prop :=
  ∃ o : List (List E × Option Addr × Nat), o.map (·.1) = ll ∧ NRow w w' encS 1 o A ∧ ∀ x ∈ o, NRow w w' enc m x.1 x.2.1
def RetR2 (w : World) (enc : E → List Value) (m : Nat) (ll : List (List E)) (val : Option Addr → Nat → Value) : Ending → World → Prop :=
  fun e w' => ∃ A cp, e = .returned (val A cp) ∧ Below w.heap.size w w' ∧ NRow2 w w' enc m ll A
theorem NRow2.now {w w' : World} (n : NRow2 w w' enc m ll A) (h : Inv c bs w) : KRow2 (c.now bs w') enc m ll A := by
  obtain ⟨o, h1, h2, h3⟩ := n
  exact ⟨o, h1, h2.now h, fun x hx => (h3 x hx).now h⟩
theorem LL.callR2 (f : Nat) (as : Array Value) (val : Option Addr → Nat → Value) (hfit : fit ops N s o = true) (hr : ∀ w, (execOp (ev s) o).run P w = .ok (.enter f as) w)
    (hv : ∀ w, Inv c bs w → Calls P f as w (RetR2 w enc m ll val))
    (h : ∀ R F A cp, Le c ⟨c.W, R, F⟩ → KRow2 ⟨c.W, R, F⟩ enc m ll A → LL P ops ⟨c.W, R, F⟩ N (put o.dst (val A cp) s) bs Q rest) : LL P ops c N s bs Q (o :: rest) := fun a w hf hi => by
  obtain ⟨h1, h2, h3⟩ := fit_spec hfit
  refine wpList_step fun K hK => ?_
  rw [if_pos (hf.wants h1)]
  unfold Oper.wp
  rw [hf.execOp h2, hr]
  exact (hv w hi).mono fun e w' ⟨A, cp, he, hb, hn⟩ => by
    subst he
    have hi' := hi.call hb
    exact hK _ _ (h w' _ A cp hi'.now.2 (hn.now hi) _ w' (hf.put h3 _) hi'.now.1)
/-- A list of lists that grows: its rows are kept, and new. -/
def Own2 (c : Cx) (enc : E → List Value) (m T : Nat) (ll : List (List E)) (A : Option Addr) (cap : Nat) (ba : Bs) : Prop :=
  ∃ o : List (List E × Option Addr × Nat), o.map (·.1) = ll ∧ Own encS 1 T o A cap ba ∧ ∀ x ∈ o, KRow c enc m x.1 x.2.1 ∧ ∀ b q, x.2.1 = some ⟨b, q, none⟩ → x.1 ≠ [] → c.W.heap.size ≤ b
theorem Own2.nil {T : Nat} (A : Option Addr) : Own2 c enc m T ([] : List (List E)) A 0 [] := ⟨[], rfl, .nil A rfl, by simp⟩
theorem Own2.le {c' : Cx} {T cap : Nat} {ba : Bs} (k : Own2 c enc m T ll A cap ba) (h : Le c c') : Own2 c' enc m T ll A cap ba := by
  obtain ⟨o, h1, h2, h3⟩ := k
  exact ⟨o, h1, h2, fun x hx => ⟨(h3 x hx).1.le h, fun b q e hne => by rw [h.W]; exact (h3 x hx).2 b q e hne⟩⟩
theorem encS_ok : EncOk (encS : List E × Option Addr × Nat → List Value) 1 := ⟨fun _ => rfl, fun e u hu => by simp [encS] at hu; subst hu; rfl, by decide⟩
/-- A row is appended. -/
theorem LL.app2 {t T bytes : Nat} {r : List E} {rr : List (List E)} {A A2 A3 : Option Addr} {cap c2 c3 : Nat} {ba : Bs} (pre : Bs) (x y : Operand) (el : ElemOk P t T 1 bytes) (own : Own2 c enc m T ll A cap ba) (kr : KRow c enc m r A3) (fr : ∀ b q, A3 = some ⟨b, q, none⟩ → r ≠ [] → c.W.heap.size ≤ b)
    (k2 : KRow c encS 1 [(r, A3, c3)] A2) (ha : Saw.app bytes ll [r] = some rr) (hfit : fit ops N s o = true)
    (ho : o.op = .call { callee := .builtin .append, args := #[x, y], argTypes := #[t, t] }) (hx : ev s x = .slice A ll.length cap) (hy : ev s y = .slice A2 1 c2)
    (h : ∀ A' cap' ba', Own2 c enc m T rr A' cap' ba' → LL P ops c N (put o.dst (.slice A' rr.length cap') s) (pre ++ ba') Q rest) : LL P ops c N s (pre ++ ba) Q (o :: rest) := by
  obtain ⟨oo, rfl, ow, hk⟩ := own
  obtain ⟨rfl, hb⟩ := app_spec ha
  rw [List.length_map] at hx hb
  refine LL.app (l2 := [(r, A3, c3)]) (r := oo ++ [(r, A3, c3)]) pre x y el encS_ok ow k2 (by unfold Saw.app; exact if_pos hb) hfit ho hx hy fun A' cap' ba' ow' => ?_
  have hl : (oo ++ [(r, A3, c3)]).length = (oo.map (·.1) ++ [r]).length := by simp
  have := h A' cap' ba' ⟨oo ++ [(r, A3, c3)], by simp, ow', fun z hz => by
    rcases List.mem_append.1 hz with hz | hz
    · exact hk z hz
    · simp at hz; subst hz; exact ⟨kr, fr⟩⟩
  rw [hl]; exact this
theorem Own2.row {T cap : Nat} {ba pre : Bs} {w : World} (own : Own2 c enc m T ll A cap ba) (hi : Inv c (pre ++ ba) w) : KRow2 (c.now pre w) enc m ll A := by
  obtain ⟨oo, rfl, ow, hk⟩ := own
  have hp := (hi.sub (List.sublist_append_left pre ba)).now.2
  exact ⟨oo, rfl, (ow.row encS_ok hi).1, fun x hx => (hk x hx).1.le hp⟩
theorem LL.freeze2 {T cap : Nat} {ba : Bs} {ops' : List Oper} (pre : Bs) (own : Own2 c enc m T ll A cap ba) (h : ∀ R F, Le c ⟨c.W, R, F⟩ → KRow2 ⟨c.W, R, F⟩ enc m ll A → LL P ops ⟨c.W, R, F⟩ N s pre Q ops') : LL P ops c N s (pre ++ ba) Q ops' := fun a w hf hi =>
  have hp := (hi.sub (List.sublist_append_left pre ba)).now
  h _ _ hp.2 (own.row hi) a w hf hp.1
theorem Inv.retOwn2 {w : World} {T cap : Nat} {ba pre : Bs} (h : Inv c (pre ++ ba) w) (own : Own2 c enc m T ll A cap ba) {val : Option Addr → Nat → Value} {v : Value} (e : v = val A cap) : RetR2 c.W enc m ll val (.returned v) w := by
  obtain ⟨oo, rfl, ow, hk⟩ := own
  refine ⟨A, cap, by rw [e], h.below, oo, rfl, Below.start_row (W := c.W) encS_ok ow h, fun x hx => ?_⟩
  exact ⟨(hk x hx).1.at h, fun b q hA hne => (hk x hx).2 b q hA hne⟩
theorem HS.storeL {j : Nat} {i : Int} {x y : E} {t : Nat} {a b : Operand} {T : Nat} {bs' : Bs} (k g : Nat) (ok : One P t e1) (hbs : bs.set k (g, cl ((l.set i.toNat y).map e1) T) = bs') (hk : bs[k]? = some (g, cl (l.map e1) T)) (hi : idx l i = some x) (hj : ops[j]? = some o) (hfit : fit ops N s o = true) (ho : o.op = .store t a b) (hx : ev s a = .pointer (rp (some ⟨g, 0, none⟩) (i.toNat * 1 + 0))) (hy : ev s b = e1 y) (hs : ∀ w, Inv c bs' w → Z w)
    (h : HH P ops Z c N (put o.dst undef s) bs' Q fuel (listed.setIfInBounds j true)) : HS P ops Z c N s bs Q fuel listed j := by
  obtain ⟨inf, hinf, hsz⟩ := Option.map_eq_some_iff.1 ok.size
  obtain ⟨h0, h1, h2⟩ := idx_some hi
  refine HS.store k g i.toNat t a b ((l.set i.toNat y).map e1) hbs hj hfit ho ?_ hk ?_ hs h
  · rw [hx]; simp [rp]
  · rw [hy]; exact stv_at hinf hsz ok.one ok.cells h1
theorem perm_rot {α : Type} (x a b : List α) : (x ++ a ++ b).Perm (x ++ b ++ a) := by
  rw [List.append_assoc, List.append_assoc]
  exact List.Perm.append_left x List.perm_append_comm
theorem LL.addnil {l' : List Oper} (h : LL P ops c N s (bs ++ []) Q l') : LL P ops c N s bs Q l' := by rw [List.append_nil] at h; exact h
theorem HH.addnil (h : HH P ops Z c N s (bs ++ []) Q fuel listed) : HH P ops Z c N s bs Q fuel listed := by rw [List.append_nil] at h; exact h
theorem J.addnil {x : Code} (h : J P c N s (bs ++ []) Q x) : J P c N s bs Q x := by rw [List.append_nil] at h; exact h
theorem NN.perm {bs' : Bs} {e : Exit} (hp : bs.Perm bs') (h : NN c N s bs' Q e) : NN c N s bs Q e := fun a w hf hi => h a w hf (hi.perm hp)
/-- A list of fixed length is only read from here on. -/
theorem freezeL_w {w : World} {bs' : Bs} {k g T : Nat} {enc : E → List Value} (hi : Inv c bs w) (hk : bs[k]? = some (g, cl (l.map e1) T)) (hb : bs' = bs.eraseIdx k) (he : enc = fun x => [e1 x]) : Inv (c.now bs' w) bs' w ∧ Le c (c.now bs' w) ∧ KRow (c.now bs' w) enc 1 l (some ⟨g, 0, none⟩) ∧ c.W.heap.size ≤ g := by
  subst he
  have hs : bs'.Sublist bs := hb ▸ List.eraseIdx_sublist bs k
  have hp := (hi.sub hs).now
  obtain ⟨⟨h1, _⟩, ob, h2, h3⟩ := hi.blk _ (List.mem_of_getElem? hk)
  refine ⟨hp.1, hp.2, krowL (T := T) ⟨⟨lt_of_some h2, fun y hy e => ?_⟩, ob, h2, h3⟩, h1⟩
  subst hb
  obtain ⟨j, hj, rfl⟩ := List.getElem_of_mem hy
  have hpw := List.pairwise_iff_getElem.1 hi.apart
  have hkl : k < bs.length := (List.getElem?_eq_some_iff.1 hk).1
  have hkg : bs[k] = (g, cl (l.map e1) T) := (List.getElem?_eq_some_iff.1 hk).2
  rw [List.getElem_eraseIdx] at e
  split at e
  · rename_i hjk
    exact hpw j k (by omega) hkl hjk (by rw [hkg]; exact e)
  · rename_i hjk
    have hj' := hj
    rw [List.length_eraseIdx, if_pos hkl] at hj'
    exact hpw k (j + 1) hkl (by omega) (by omega) (by rw [hkg]; exact e.symm)
theorem LL.freezeL {bs' : Bs} {T : Nat} {enc : E → List Value} {ops' : List Oper} (k g : Nat) (hk : bs[k]? = some (g, cl (l.map e1) T)) (hb : bs' = bs.eraseIdx k) (he : enc = fun x => [e1 x]) (h : ∀ R F, Le c ⟨c.W, R, F⟩ → KRow ⟨c.W, R, F⟩ enc 1 l (some ⟨g, 0, none⟩) → (∀ b q, (some ⟨g, 0, none⟩ : Option Addr) = some ⟨b, q, none⟩ → l ≠ [] → c.W.heap.size ≤ b) → LL P ops ⟨c.W, R, F⟩ N s bs' Q ops') : LL P ops c N s bs Q ops' := fun a w hf hi => by
  obtain ⟨h1, h2, h3, h4⟩ := freezeL_w hi hk hb he
  exact h _ _ h2 h3 (fun b q e _ => by cases e; exact h4) a w hf h1
theorem HH.freezeL {bs' : Bs} {T : Nat} {enc : E → List Value} (k g : Nat) (hk : bs[k]? = some (g, cl (l.map e1) T)) (hb : bs' = bs.eraseIdx k) (he : enc = fun x => [e1 x]) (h : ∀ R F, Le c ⟨c.W, R, F⟩ → KRow ⟨c.W, R, F⟩ enc 1 l (some ⟨g, 0, none⟩) → (∀ b q, (some ⟨g, 0, none⟩ : Option Addr) = some ⟨b, q, none⟩ → l ≠ [] → c.W.heap.size ≤ b) → HH P ops Z ⟨c.W, R, F⟩ N s bs' Q fuel listed) : HH P ops Z c N s bs Q fuel listed := fun a w hf hi => by
  obtain ⟨h1, h2, h3, h4⟩ := freezeL_w hi hk hb he
  exact h _ _ h2 h3 (fun b q e _ => by cases e; exact h4) a w hf h1
theorem lit2_row {o : List (List E × Option Addr × Nat)} (k : KRow c encS 1 o A) (h : ∀ x ∈ o, KRow c enc m x.1 x.2.1) : KRow2 c enc m (o.map (·.1)) A := ⟨o, rfl, k, h⟩
theorem All.cons {o : List (List E × Option Addr × Nat)} {r : List E} {A' : Option Addr} {cp : Nat} (h : KRow c enc m r A') (t : ∀ x ∈ o, KRow c enc m x.1 x.2.1) : ∀ x ∈ (r, A', cp) :: o, KRow c enc m x.1 x.2.1 := fun x hx => by
  rcases List.mem_cons.1 hx with rfl | hx
  · exact h
  · exact t x hx
/-- A loop in which more and more is kept. -/
theorem J.loopC {x : Code} (I : Cx → Nat → S → Bs → Prop) (n : Nat) (h0 : I c n s bs) (round : ∀ R F n s bs, Le c ⟨c.W, R, F⟩ → I ⟨c.W, R, F⟩ n s bs → J P ⟨c.W, R, F⟩ N s bs (Exit.then (fun a w => ∃ c'' n' s' bs', Le ⟨c.W, R, F⟩ c'' ∧ n' < n ∧ I c'' n' s' bs' ∧ Fr N s' a ∧ Inv c'' bs' w) Q) x) : J P c N s bs Q (.loop x) := fun a w hf hi =>
  wp_loop_ghost (fun n a w => ∃ c' s bs, Le c c' ∧ I c' n s bs ∧ Fr N s a ∧ Inv c' bs w) n ⟨c, s, bs, Le.refl c, h0, hf, hi⟩ fun n a w ⟨c', s, bs, le, h, hf, hi⟩ => by
    obtain ⟨W, R, F⟩ := c'
    have e : W = c.W := le.W
    subst e
    exact wp_mono (round R F n s bs le h a w hf hi) fun e a w hq => by
      cases e with
      | normal => obtain ⟨c'', n', s', bs', h0, h1, h2, h3, h4⟩ := hq; exact ⟨n', h1, c'', s', bs', le.trans h0, h2, h3, h4⟩
      | _ => exact hq
theorem NN.roundC {c' : Cx} {n n' : Nat} {I : Cx → Nat → S → Bs → Prop} {s' : S} {bs' : Bs} (l : List Nat) (le : Le c c') (hlt : n' < n) (hs : bs'.Sublist bs) (e : Saw.keep s l = s') (h : I c' n' s' bs') : NN c' N s bs (Exit.then (fun a w => ∃ c'' n' s' bs', Le c c'' ∧ n' < n ∧ I c'' n' s' bs' ∧ Fr N s' a ∧ Inv c'' bs' w) Q) .normal :=
  fun _ _ hf hi => ⟨c', n', s', bs', le, hlt, h, hf.to l e, hi.sub hs⟩
theorem LL.storeOwn1 {T cap : Nat} {ba : Bs} {i : Int} {e0 e : E} {t : Nat} {x y : Operand} (pre : Bs) (ok : EncOk enc m) (own : Own enc m T l A cap ba) (hi : idx l i = some e0) (hfit : fit ops N s o = true) (ho : o.op = .store t x y) (hx : ev s x = .pointer (rp A (i.toNat * m + 0))) (hy : (ev s y).cells = (enc e).toArray) (ht : (P.info? t).map (·.size) = some m)
    (h : ∀ ba', Own enc m T (l.set i.toNat e) A cap ba' → LL P ops c N (put o.dst undef s) (pre ++ ba') Q rest) : LL P ops c N s (pre ++ ba) Q (o :: rest) := fun a w hf hw => by
  have hil : i.toNat < l.length := by
    unfold idx at hi; split at hi
    · cases hi
    · exact (List.getElem?_eq_some_iff.1 hi).1
  cases own with
  | nil _ h0 => subst h0; simp at hil
  | blk g _ hle hcm =>
    obtain ⟨hg0, ob, hob, cur, rfl, hcs, htake⟩ := hw.blk (g, ownObj T m cap l.length (flat enc l)) (List.mem_append_right _ List.mem_cons_self)
    obtain ⟨inf, hinf, hsz⟩ := Option.map_eq_some_iff.1 ht
    obtain ⟨h1, h2, h3⟩ := fit_spec hfit
    have hb : i.toNat * m + m ≤ l.length * m := by rw [← Nat.succ_mul]; exact Nat.mul_le_mul_right _ hil
    have hcl : cur.toList.length = cap * m := by rw [← hcs]; simp
    have hb2 : l.length * m ≤ cap * m := Nat.mul_le_mul_right _ hle
    have hst : stv P t cur.toList (i.toNat * m + 0) (ev s y) = some (cur.toList.take (i.toNat * m) ++ enc e ++ cur.toList.drop (i.toNat * m + m)) := by
      unfold stv
      rw [hinf]
      dsimp only
      rw [hy]
      have e1 : (Nat.beq (enc e).toArray.size inf.size && Nat.ble (i.toNat * m + 0 + inf.size) cur.toList.length && (enc e).toArray.toList.all (·.oneCell')) = true := by
        simp only [List.size_toArray, ok.len, hsz, hcl, Bool.and_eq_true, Nat.beq_eq, Nat.ble_eq, List.all_eq_true]
        exact ⟨⟨trivial, by omega⟩, ok.one e⟩
      rw [if_pos e1, hsz]
      rfl
    refine wpList_step fun K hK => ?_
    rw [if_pos (hf.wants h1)]
    obtain ⟨w', hr, k1, k2, k3, k4, k5, k6⟩ := run_stv (w := w) (g := g) (T := T) hst (by simpa using hob)
    have hrun : (execOp (ev s) o).run P w = .ok .skip w' := by
      unfold execOp
      rw [ho]
      simp only [hx, rp, Nat.zero_add, Sem.run_bind, hr, Result.andThen_ok, Sem.run_pure]
    unfold Oper.wp
    rw [hf.execOp h2, hrun]
    have hil' : (pre ++ [(g, ownObj T m cap l.length (flat enc l))])[pre.length]? = some (g, ownObj T m cap l.length (flat enc l)) := by simp
    have ht' := hw.turn (w' := w') hil' (ψ := ownObj T m cap (l.set i.toNat e).length (flat enc (l.set i.toNat e))) k1 k2 k3 k4 k5 k6 ⟨_, rfl, by
        simp only [List.size_toArray, List.length_append, List.length_take, List.length_drop, ok.len, hcl]; omega, by
        rw [List.length_set, ← flat_set ok.len l _ e hil, ← htake]
        exact take_splice cur.toList (enc e) (i.toNat * m) m (l.length * m) (ok.len e) hb (by omega)⟩
    simp only [List.set_append_right _ _ (Nat.le_refl _), Nat.sub_self, List.set_cons_zero] at ht'
    exact hK _ _ (h _ (.blk g cap (by rw [List.length_set]; exact hle) hcm) _ _ (hf.put h3 _) ht')

theorem HS.perm {bs' : Bs} {i : Nat} (hp : bs.Perm bs') (h : HS P ops Z c N s bs' Q fuel listed i) : HS P ops Z c N s bs Q fuel listed i := fun a w hf hi => h a w hf (hi.perm hp)
theorem LL.keep1 {g : Nat} {φ : Obj → Prop} {l' : List Oper} (h : ∀ R F, Le c ⟨c.W, R, F⟩ → BlkAt ⟨c.W, R, F⟩ g φ → c.W.heap.size ≤ g → LL P ops ⟨c.W, R, F⟩ N s bs Q l') : LL P ops c N s ((g, φ) :: bs) Q l' := fun a w hf hi => by
  have hp := hi.sub (List.sublist_cons_self (g, φ) bs)
  obtain ⟨⟨h1, _⟩, ob, h2, h3⟩ := hi.blk _ List.mem_cons_self
  refine h _ _ hp.now.2 ⟨⟨lt_of_some h2, fun y hy e => ?_⟩, ob, h2, h3⟩ h1 a w hf hp.now.1
  exact (List.pairwise_cons.1 hi.apart).1 y hy e.symm
/-- A load out of a block that is kept. -/
theorem ldB {g off : Nat} {cs : List Value} {T : TypeId} {t : TypeId} {x : Operand} {v : Value} (ho : o.op = .load t x) (hx : ev s x = .pointer (some ⟨g, off, none⟩)) (hb : BlkAt c g (cl cs T)) (h : ldv P t cs off = some v) :
    ∀ w, Inv c bs w → (execOp (ev s) o).run P w = .ok (.value v) w := by
  obtain ⟨hF, ob, h1, h2⟩ := hb
  exact ldW ho hx (by rw [h1, h2]) hF h
/-- What a function leaves that makes a list of fixed length. -/
def Made (w : World) (r : List Int) : Ending → World → Prop := fun e w_ => ∃ (g n : Nat), e = .returned (.slice (some ⟨g, 0, none⟩) n n) ∧ r.length = n ∧ Inv (Cx.start w) [(g, cl (List.map eI r) 3)] w_
theorem LL.callMade (f : Nat) (as : Array Value) (r : List Int) (hfit : fit ops N s o = true) (hr : ∀ w, (execOp (ev s) o).run P w = .ok (.enter f as) w) (hv : ∀ w, Inv c [] w → Calls P f as w (Made w r))
    (h : ∀ g n, r.length = n → LL P ops c N (put o.dst (.slice (some ⟨g, 0, none⟩) n n) s) [(g, cl (List.map eI r) 3)] Q rest) : LL P ops c N s [] Q (o :: rest) :=
  LL.enter f as hfit hr fun w hw => (hv w hw).mono fun e w' ⟨g, n, he, hl, hi⟩ => ⟨_, he, fun a hf => h g n hl a w' hf (hw.join hi)⟩
/-- A call that writes, and tells something besides. -/
theorem LL.callA (f : Nat) (as : Array Value) (v : Value) (bs' : Bs) (φ : Prop) (hfit : fit ops N s o = true) (hr : ∀ w, (execOp (ev s) o).run P w = .ok (.enter f as) w)
    (hv : ∀ w, Inv c bs w → Calls P f as w (fun e w' => e = .returned v ∧ Inv c bs' w' ∧ φ))
    (h : φ → LL P ops c N (put o.dst v s) bs' Q rest) : LL P ops c N s bs Q (o :: rest) :=
  LL.enter f as hfit hr fun w hw => (hv w hw).mono fun e w' ⟨he, hb, hp⟩ => ⟨v, he, fun a hf => h hp a w' hf hb⟩
theorem HS.callA {i : Nat} (f : Nat) (as : Array Value) (v : Value) (bs' : Bs) (φ : Prop) (hi : ops[i]? = some o) (hfit : fit ops N s o = true) (hr : ∀ w, (execOp (ev s) o).run P w = .ok (.enter f as) w) (hs : ∀ w, Inv c bs' w → Z w)
    (hv : ∀ w, Inv c bs w → Calls P f as w (fun e w' => e = .returned v ∧ Inv c bs' w' ∧ φ))
    (h : φ → HH P ops Z c N (put o.dst v s) bs' Q fuel (listed.setIfInBounds i true)) : HS P ops Z c N s bs Q fuel listed i :=
  HS.enter f as hi hfit hr fun w hw => (hv w hw).mono fun _ w' ⟨he, hb, hp⟩ => ⟨v, bs', he, hb, hs _ hb, h hp⟩
theorem Fr.int {a : Act} {d : Nat} {b b' : Int} (h : Fr N s a) (hd : get s d = some (.int .i64 b)) (e : b = b') : Fr N ((d, .int .i64 b') :: s) a :=
  ⟨h.size, h.defers, fun i v hv => by
    simp only [get] at hv
    by_cases e' : Nat.beq d i = true
    · rw [if_pos e'] at hv
      have : d = i := by simpa using e'
      subst this; subst e; exact h.at_ d v (hd.trans hv)
    · rw [if_neg e'] at hv; exact h.at_ i v hv⟩
theorem QQ.int {l' : List Oper} (d : Nat) (b b' : Int) (e : b = b') (hd : get s d = some (.int .i64 b)) (h : QQ P ops c N ((d, .int .i64 b') :: s) bs Q l') : QQ P ops c N s bs Q l' := fun a hf => h a (Fr.int hf hd e)
theorem LL.int {l' : List Oper} (d : Nat) (b b' : Int) (e : b = b') (hd : get s d = some (.int .i64 b)) (h : LL P ops c N ((d, .int .i64 b') :: s) bs Q l') : LL P ops c N s bs Q l' := fun a w hf hi => h a w (Fr.int hf hd e) hi
theorem HH.int (d : Nat) (b b' : Int) (e : b = b') (hd : get s d = some (.int .i64 b)) (h : HH P ops Z c N ((d, .int .i64 b') :: s) bs Q fuel listed) : HH P ops Z c N s bs Q fuel listed := fun a w hf hi => h a w (Fr.int hf hd e) hi
end
end Go.Saw

/- The walking engine: frames as short lists of known slots, own memory as named blocks, one lemma for each operation. -/
import Derived.Below
import Derived.Deep.Quiet
import Derived.Deep.LoopGhost
import Derived.Deep.MidRow
import Derived.OrdersHeld
import Derived.Deep.RegionHeld3
import Derived.Tactics
import Derived.KernelRfl
import Derived.LoopN
import Derived.Scope
namespace Go.Saw
set_option linter.unusedVariables false
open Go.RowKit

/-! ### Frames -/
abbrev S := List (Nat × Value)
def get : S → Nat → Option Value
  | [], _ => none
  | (k, v) :: r, i => if Nat.beq k i then some v else get r i
def ev (s : S) : Operand → Value
  | .tmp t => (get s t).getD undef
  | .const v => v
  | .global g => .pointer (some ⟨g, 0, none⟩)
  | .func f => .func (.func f) #[] #[]
def put (d : Option Nat) (v : Value) (s : S) : S := match d with | some d => (d, v) :: s | none => s
def keep (s : S) : List Nat → S
  | [] => []
  | i :: r => match get s i with | some v => (i, v) :: keep s r | none => keep s r

structure Fr (N : Nat) (s : S) (a : Act) : Prop where
  size : a.tmps.size = N
  defers : a.defers = []
  at_ : ∀ i v, get s i = some v → a.tmps[i]? = some v

theorem Fr.put {N : Nat} {s : S} {a : Act} (h : Fr N s a) {d : Option Nat} (hd : d.all (fun k => Nat.blt k N) = true) (v : Value) : Fr N (put d v s) (a.put d v) := by
  cases d with
  | none => exact h
  | some d =>
    have hlt : d < N := by simpa [Nat.blt_eq] using hd
    refine ⟨by simp [Act.put, h.size], h.defers, fun i u hu => ?_⟩
    simp only [Saw.put, get] at hu
    by_cases e : d = i
    · subst e
      rw [if_pos (Nat.beq_refl d)] at hu
      cases hu
      simp [Act.put, h.size, hlt]
    · rw [if_neg (by rw [Nat.beq_eq]; exact e)] at hu
      have := h.at_ i u hu
      simp only [Act.put]
      rw [Array.getElem?_setIfInBounds_ne e]
      exact this

theorem get_keep {s : S} : ∀ {l : List Nat} {i : Nat} {v : Value}, get (keep s l) i = some v → get s i = some v
  | [], _, _, h => by simp [keep, get] at h
  | j :: r, i, v, h => by
    simp only [keep] at h
    cases hj : get s j with
    | none => rw [hj] at h; exact get_keep h
    | some u =>
      rw [hj] at h
      simp only [get] at h
      by_cases e : Nat.beq j i = true
      · rw [if_pos e] at h
        have : j = i := by simpa using e
        subst this; rw [hj]; exact h
      · rw [if_neg e] at h; exact get_keep h
theorem Fr.keep {N : Nat} {s : S} {a : Act} (h : Fr N s a) (l : List Nat) : Fr N (keep s l) a := ⟨h.size, h.defers, fun i v hv => h.at_ i v (get_keep hv)⟩
/-- Only what is listed is kept, in the form that is typed. -/
theorem Fr.to {N : Nat} {s s' : S} {a : Act} (l : List Nat) (h : Fr N s a) (e : Saw.keep s l = s') : Fr N s' a := e ▸ h.keep l

def known (s : S) : Operand → Bool
  | .tmp t => (get s t).isSome
  | _ => true
theorem Fr.eval {N : Nat} {s : S} {a : Act} (h : Fr N s a) {x : Operand} (hk : known s x = true) : a.eval x = ev s x := by
  cases x with
  | tmp t =>
    simp only [known, Option.isSome_iff_exists] at hk
    obtain ⟨v, hv⟩ := hk
    have := h.at_ t v hv
    simp [Act.eval, ev, hv, this]
  | _ => rfl

def notSelect : Op → Bool
  | .select _ _ => false
  | _ => true
def knownOp (s : S) (o : Op) : Bool := notSelect o && o.operands.toList.all (known s)
theorem Fr.execOp {N : Nat} {s : S} {a : Act} (h : Fr N s a) {o : Oper} (hk : knownOp s o.op = true) : execOp a.eval o = execOp (ev s) o := by
  simp only [knownOp, Bool.and_eq_true, List.all_eq_true] at hk
  refine execOp_congr o (fun cs b e => ?_) (fun x hx => h.eval (hk.2 x (by simpa using hx)))
  rw [e] at hk; simp [notSelect] at hk

/-- The guard of an operation, in a frame that knows the guarding slot. -/
def wants (ops : Array Oper) (s : S) (o : Oper) : Option Bool :=
  match o.guard with
  | none => some true
  | some (j, want) =>
    match (ops[j]?).bind (·.dst) with
    | some d => match get s d with
      | some (.bool b) => some (b == want)
      | some (.tuple _) => some false
      | _ => none
    | none => none
theorem Fr.wants {N : Nat} {s : S} {a : Act} (h : Fr N s a) {ops : Array Oper} {o : Oper} {b : Bool} (hw : wants ops s o = some b) : Region.wanted o (yielded ops a.tmps) = b := by
  unfold Saw.wants at hw
  unfold Region.wanted
  split at hw
  · rename_i hg; rw [hg]; simpa using hw
  · rename_i j want hg
    rw [hg]
    dsimp only at hw ⊢
    cases hd : (ops[j]?).bind (·.dst) with
    | none => rw [hd] at hw; cases hw
    | some d =>
      simp only [hd] at hw
      unfold yielded
      rw [hd]
      cases hv : get s d with
      | none => simp [hv] at hw
      | some v =>
        have ht := h.at_ d v hv
        simp only [hv] at hw
        cases v <;> simp at hw <;> simp [ht, hw]
        all_goals first | (subst hw; cases want <;> rfl) | (cases want <;> simp_all)

/-! ### Own memory: named blocks; the rest is kept -/
abbrev Bs := List (Nat × (Obj → Prop))
/-- A block of cells, known whole. -/
def cl (cs : List Value) (T : TypeId) : Obj → Prop := fun o => o = .cells cs.toArray T (0, 0)
structure Cx where
  W : World
  R : World
  F : Nat → Prop
structure Inv (c : Cx) (bs : Bs) (w : World) : Prop where
  below : Below c.W.heap.size c.W w
  keep : ∀ b, c.F b → b < w.heap.size ∧ w.heap[b]? = c.R.heap[b]?
  blk : ∀ x ∈ bs, (c.W.heap.size ≤ x.1 ∧ ¬ c.F x.1) ∧ ∃ o, w.heap[x.1]? = some o ∧ x.2 o
  apart : bs.Pairwise (fun x y => x.1 ≠ y.1)
def Cx.start (W : World) : Cx := ⟨W, W, fun b => b < W.heap.size⟩
theorem Inv.start (W : World) : Inv (Cx.start W) [] W :=
  ⟨Below.refl _ _, fun _ h => ⟨h, rfl⟩, (fun _ h => by cases h), List.Pairwise.nil⟩
theorem Inv.drew {c : Cx} {bs : Bs} {w : World} (h : Inv c bs w) : Inv c bs { w with drawn := w.drawn + 1 } :=
  ⟨h.below.drew, h.keep, h.blk, h.apart⟩
theorem lt_of_some {w : World} {b : Nat} {o : Obj} (h : w.heap[b]? = some o) : b < w.heap.size := by
  rcases Nat.lt_or_ge b w.heap.size with h' | h'
  · exact h'
  · rw [Array.getElem?_eq_none h'] at h; cases h
/-- Behind a call that has only made memory. -/
theorem Inv.call {c : Cx} {bs : Bs} {w w' : World} (h : Inv c bs w) (hb : Below w.heap.size w w') : Inv c bs w' := by
  refine ⟨h.below.trans (hb.mono h.below.size), fun b hF => ?_, fun x hx => ?_, h.apart⟩
  · have := h.keep b hF
    exact ⟨Nat.lt_of_lt_of_le this.1 hb.size, (hb.block b this.1).trans this.2⟩
  · obtain ⟨h1, o, ho, hp⟩ := h.blk x hx
    exact ⟨h1, o, (hb.block _ (lt_of_some ho)).trans ho, hp⟩
/-- A new block. -/
theorem Inv.new {c : Cx} {bs : Bs} {w : World} (h : Inv c bs w) {o : Obj} {φ : Obj → Prop} (ho : φ o) : Inv c ((w.heap.size, φ) :: bs) (w.alloc o) := by
  have hb : Below w.heap.size w (w.alloc o) := (Below.refl _ _).alloc (Nat.le_refl _) _
  have h' := h.call hb
  refine ⟨h'.below, h'.keep, fun x hx => ?_, ?_⟩
  · rcases List.mem_cons.1 hx with rfl | hx
    · exact ⟨⟨h.below.size, fun hF => absurd (h.keep _ hF).1 (Nat.lt_irrefl _)⟩, o, by show (w.heap.push o)[w.heap.size]? = some o; simp, ho⟩
    · exact h'.blk x hx
  · refine List.pairwise_cons.2 ⟨fun y hy => ?_, h.apart⟩
    obtain ⟨_, o', ho', _⟩ := h.blk y hy
    have := lt_of_some ho'
    exact fun e => by dsimp only at e; omega
theorem Inv.sub {c : Cx} {bs bs' : Bs} {w : World} (h : Inv c bs w) (hs : bs'.Sublist bs) : Inv c bs' w :=
  ⟨h.below, h.keep, fun x hx => h.blk x (hs.subset hx), h.apart.sublist hs⟩
theorem Inv.cells {c : Cx} {bs : Bs} {w : World} (h : Inv c bs w) {i g : Nat} {cs : List Value} {T : TypeId} (hi : bs[i]? = some (g, cl cs T)) : w.heap[g]? = some (.cells cs.toArray T (0, 0)) := by
  obtain ⟨_, o, ho, hp⟩ := h.blk _ (List.mem_of_getElem? hi)
  rw [ho, hp]
/-- A named block is turned. -/
theorem Inv.turn {c : Cx} {bs : Bs} {w w' : World} (h : Inv c bs w) {i g : Nat} {φ ψ : Obj → Prop} (hi : bs[i]? = some (g, φ)) {o : Obj}
    (hos : w'.os = w.os) (htape : w'.tape = w.tape) (hout : w'.output = w.output) (hsz : w'.heap.size = w.heap.size) (hk : ∀ k, k ≠ g → w'.heap[k]? = w.heap[k]?) (ho : w'.heap[g]? = some o) (hp : ψ o) : Inv c (bs.set i (g, ψ)) w' := by
  obtain ⟨⟨hg1, hg2⟩, _⟩ := h.blk _ (List.mem_of_getElem? hi)
  have hil : i < bs.length := (List.getElem?_eq_some_iff.1 hi).1
  have hig : bs[i] = (g, φ) := (List.getElem?_eq_some_iff.1 hi).2
  have hmap : (bs.set i (g, ψ)).map (·.1) = bs.map (·.1) := by
    rw [List.map_set]
    have : (bs.map (·.1))[i]'(by simpa using hil) = g := by simp [hig]
    conv => rhs; rw [← List.set_getElem_self (as := bs.map (·.1)) (i := i) (by simpa using hil)]
    rw [this]
  refine ⟨h.below.trans ⟨hos, htape, hout, by omega, fun k hk' => hk k (by dsimp only at hg1; omega)⟩, fun b hF => ?_, fun x hx => ?_, ?_⟩
  · have := h.keep b hF
    exact ⟨by omega, (hk b (fun e => hg2 (e ▸ hF))).trans this.2⟩
  · obtain ⟨j, hj, rfl⟩ := List.getElem_of_mem hx
    rw [List.length_set] at hj
    by_cases e : i = j
    · subst e
      rw [List.getElem_set_self]
      exact ⟨⟨hg1, hg2⟩, o, ho, hp⟩
    · rw [List.getElem_set_ne e]
      obtain ⟨h1, o', ho', hp'⟩ := h.blk bs[j] (List.getElem_mem hj)
      refine ⟨h1, o', (hk _ (fun e' => ?_)).trans ho', hp'⟩
      have hpw := List.pairwise_iff_getElem.1 h.apart
      rcases Nat.lt_or_gt_of_ne e with hlt | hlt
      · exact hpw i j hil hj hlt (by rw [hig]; exact e'.symm)
      · exact hpw j i hj hil hlt (by rw [hig]; exact e')
  · have h1 : (bs.map (·.1)).Pairwise (· ≠ ·) := List.pairwise_map.2 h.apart
    rw [← hmap] at h1
    exact List.pairwise_map.1 h1


/-! ### The judgements -/
section
variable {P : Program} {ops : Array Oper} {c : Cx} {N : Nat} {s : S} {bs : Bs} {o : Oper} {rest : List Oper} {Q : Exit → Act → World → Prop}

/-- From every frame and world of this form the code comes to 'Q'. -/
def J (P : Program) (c : Cx) (N : Nat) (s : S) (bs : Bs) (Q : Exit → Act → World → Prop) (x : Code) : Prop := ∀ a w, Fr N s a → Inv c bs w → x.wp P Q a w
/-- Every frame and world of this form will do at the exit 'e'. -/
def NN (c : Cx) (N : Nat) (s : S) (bs : Bs) (Q : Exit → Act → World → Prop) (e : Exit) : Prop := ∀ a w, Fr N s a → Inv c bs w → Q e a w
/-- The rest of a plain region. -/
def LL (P : Program) (ops : Array Oper) (c : Cx) (N : Nat) (s : S) (bs : Bs) (Q : Exit → Act → World → Prop) (l : List Oper) : Prop := ∀ a w, Fr N s a → Inv c bs w → wpList P ops Q l a w
/-- The rest of a region that draws its order, all of whose operations are quiet. -/
def QQ (P : Program) (ops : Array Oper) (c : Cx) (N : Nat) (s : S) (bs : Bs) (Q : Exit → Act → World → Prop) (l : List Oper) : Prop :=
  ∀ a, Fr N s a → wpQuiet P ops (Inv c bs) (fun a' => ∀ w', Inv c bs w' → Q .normal a' w') l a

theorem J.seq {x y : Code} (h : J P c N s bs (Exit.then (y.wp P Q) Q) x) : J P c N s bs Q (.seq x y) := fun a w hf hi => wp_seq (h a w hf hi)
theorem J.skip (h : NN c N s bs Q .normal) : J P c N s bs Q .skip := fun a w hf hi => wp_skip (h a w hf hi)
theorem J.label {l : Nat} (h : NN c N s bs Q .normal) : J P c N s bs Q (.label l) := fun a w hf hi => wp_label (h a w hf hi)
theorem J.ret (h : NN c N s bs Q .ret) : J P c N s bs Q .ret := fun a w hf hi => wp_ret (h a w hf hi)
theorem J.exit {id : Nat} (h : NN c N s bs Q (.exit id)) : J P c N s bs Q (.exit id) := fun a w hf hi => wp_exit (h a w hf hi)
theorem J.block {id : Nat} {x : Code} (h : J P c N s bs (Exit.inBlock id Q) x) : J P c N s bs Q (.block id x) := fun a w hf hi => wp_block (h a w hf hi)
theorem J.cond {x y : Code} {e : Operand} (b : Bool) (hk : known s e = true) (hb : ev s e = .bool b) (h1 : b = true → J P c N s bs Q x) (h2 : b = false → J P c N s bs Q y) : J P c N s bs Q (.cond e x y) := fun a w hf hi =>
  wp_cond_split (t := b) (by rw [hf.eval hk, hb]) (fun e => h1 e a w hf hi) (fun e => h2 e a w hf hi)
theorem J.condT {x y : Code} {e : Operand} {b : Bool} (ht : b = true) (hk : known s e = true) (hb : ev s e = .bool b) (h1 : J P c N s bs Q x) : J P c N s bs Q (.cond e x y) := fun a w hf hi =>
  wp_cond_true (by rw [hf.eval hk, hb, ht]) (h1 a w hf hi)
theorem J.condF {x y : Code} {e : Operand} {b : Bool} (ht : b = false) (hk : known s e = true) (hb : ev s e = .bool b) (h1 : J P c N s bs Q y) : J P c N s bs Q (.cond e x y) := fun a w hf hi =>
  wp_cond_false (by rw [hf.eval hk, hb, ht]) (h1 a w hf hi)
theorem J.to {s' : S} {x : Code} (l : List Nat) (e : keep s l = s') (h : J P c N s' bs Q x) : J P c N s bs Q x := fun a w hf hi => h a w (hf.to l e) hi
theorem J.sub {bs' : Bs} {x : Code} (hs : bs'.Sublist bs) (h : J P c N s bs' Q x) : J P c N s bs Q x := fun a w hf hi => h a w hf (hi.sub hs)
theorem J.mono {Q' : Exit → Act → World → Prop} {x : Code} (hq : ∀ e a w, Q' e a w → Q e a w) (h : J P c N s bs Q' x) : J P c N s bs Q x := fun a w hf hi => wp_mono (h a w hf hi) hq
/-- What follows in a sequence. -/
theorem NN.then {y : Code} (h : J P c N s bs Q y) : NN c N s bs (Exit.then (y.wp P Q) Q) .normal := h

theorem J.plain {id : Nat} {l : List Oper} (h : LL P l.toArray c N s bs Q l) : J P c N s bs Q (.region id l.toArray false) := fun a w hf hi => wp_region_lit (h a w hf hi)
theorem J.drawn {id : Nat} {l : List Oper} (hm : P.follows .mixedOrders = true) (hB : Region.lexB .any l.toArray = true) (h : QQ P l.toArray c N s bs Q l) : J P c N s bs Q (.region id l.toArray true) :=
  fun a w hf hi => wp_region_quiet (C := Inv c bs) hm hB hi.drew (h a hf)

theorem QQ.done {s' : S} (l : List Nat) (e : keep s l = s') (h : NN c N s' bs Q .normal) : QQ P ops c N s bs Q [] := fun a hf => wpQuiet_nil (fun w hi => h a w (hf.to l e) hi)
theorem LL.done {s' : S} (l : List Nat) (e : keep s l = s') (h : NN c N s' bs Q .normal) : LL P ops c N s bs Q [] := fun a w hf hi => wpList_nil (h a w (hf.to l e) hi)

/-- All that is asked of an operation ahead of its run. -/
def fit (ops : Array Oper) (N : Nat) (s : S) (o : Oper) : Bool :=
  (match wants ops s o with | some true => true | _ => false) && knownOp s o.op && o.dst.all (fun k => Nat.blt k N)
theorem fit_spec (h : fit ops N s o = true) : wants ops s o = some true ∧ knownOp s o.op = true ∧ o.dst.all (fun k => Nat.blt k N) = true := by
  simp only [fit, Bool.and_eq_true] at h
  refine ⟨?_, h.1.2, h.2⟩
  have := h.1.1
  cases hw : wants ops s o with
  | none => rw [hw] at this; cases this
  | some b => cases b <;> simp_all

/-- One quiet operation, of a value in every such world. -/
theorem QQ.op (v : Value) (hfit : fit ops N s o = true) (hv : ∀ w, Inv c bs w → (execOp (ev s) o).run P w = .ok (.value v) w)
    (h : QQ P ops c N (put o.dst v s) bs Q rest) : QQ P ops c N s bs Q (o :: rest) := fun a hf => by
  obtain ⟨h1, h2, h3⟩ := fit_spec hfit
  refine wpQuiet_step fun K hK => ?_
  rw [if_pos (hf.wants h1)]
  exact ⟨v, fun w hi => by unfold Oper.quietAt; rw [hf.execOp h2, hv w hi]; exact ⟨rfl, rfl⟩, hK _ (h _ (hf.put h3 v))⟩
theorem LL.op (v : Value) (hfit : fit ops N s o = true) (hv : ∀ w, Inv c bs w → (execOp (ev s) o).run P w = .ok (.value v) w)
    (h : LL P ops c N (put o.dst v s) bs Q rest) : LL P ops c N s bs Q (o :: rest) := fun a w hf hi => by
  obtain ⟨h1, h2, h3⟩ := fit_spec hfit
  refine wpList_step fun K hK => ?_
  rw [if_pos (hf.wants h1)]
  unfold Oper.wp
  rw [hf.execOp h2, hv w hi]
  exact hK _ _ (h _ w (hf.put h3 v) hi)
/-- An operation that its guard leaves out. -/
theorem QQ.off (hw : wants ops s o = some false) (hd : o.dst.all (fun k => Nat.blt k N) = true) (h : QQ P ops c N (put o.dst undef s) bs Q rest) : QQ P ops c N s bs Q (o :: rest) := fun a hf =>
  wpQuiet_step fun K hK => by rw [if_neg (by rw [hf.wants hw]; exact Bool.false_ne_true)]; exact hK _ (h _ (hf.put hd _))
theorem LL.off (hw : wants ops s o = some false) (hd : o.dst.all (fun k => Nat.blt k N) = true) (h : LL P ops c N (put o.dst undef s) bs Q rest) : LL P ops c N s bs Q (o :: rest) := fun a w hf hi =>
  wpList_step fun K hK => by rw [if_neg (by rw [hf.wants hw]; exact Bool.false_ne_true)]; exact hK _ _ (h _ w (hf.put hd _) hi)
/-- A slot's Bool is written out. -/
theorem Fr.bool {a : Act} {d : Nat} {b b' : Bool} (h : Fr N s a) (hd : get s d = some (.bool b)) (e : b = b') : Fr N ((d, .bool b') :: s) a :=
  ⟨h.size, h.defers, fun i v hv => by
    simp only [get] at hv
    by_cases e' : Nat.beq d i = true
    · rw [if_pos e'] at hv
      have : d = i := by simpa using e'
      subst this; subst e; exact h.at_ d v (hd.trans hv)
    · rw [if_neg e'] at hv; exact h.at_ i v hv⟩
theorem QQ.bool (d : Nat) (b b' : Bool) (e : b = b') (hd : get s d = some (.bool b)) (h : QQ P ops c N ((d, .bool b') :: s) bs Q rest) : QQ P ops c N s bs Q rest := fun a hf => h a (hf.bool hd e)
theorem LL.bool (d : Nat) (b b' : Bool) (e : b = b') (hd : get s d = some (.bool b)) (h : LL P ops c N ((d, .bool b') :: s) bs Q rest) : LL P ops c N s bs Q rest := fun a w hf hi => h a w (hf.bool hd e) hi
theorem J.bool {x : Code} (d : Nat) (b b' : Bool) (e : b = b') (hd : get s d = some (.bool b)) (h : J P c N ((d, .bool b') :: s) bs Q x) : J P c N s bs Q x := fun a w hf hi => h a w (hf.bool hd e) hi

/-- A call that only makes memory. -/
theorem QQ.call (f : Nat) (as : Array Value) (v : Value) (hfit : fit ops N s o = true) (hr : ∀ w, (execOp (ev s) o).run P w = .ok (.enter f as) w)
    (hv : ∀ w, Inv c bs w → Calls P f as w (fun e w' => e = .returned v ∧ Below w.heap.size w w'))
    (h : QQ P ops c N (put o.dst v s) bs Q rest) : QQ P ops c N s bs Q (o :: rest) := fun a hf => by
  obtain ⟨h1, h2, h3⟩ := fit_spec hfit
  refine wpQuiet_step fun K hK => ?_
  rw [if_pos (hf.wants h1)]
  refine ⟨v, fun w hi => ?_, hK _ (h _ (hf.put h3 v))⟩
  unfold Oper.quietAt
  rw [hf.execOp h2, hr]
  exact ⟨rfl, (hv w hi).mono fun e w' ⟨he, hb⟩ => ⟨he, hi.call hb⟩⟩
theorem LL.call (f : Nat) (as : Array Value) (v : Value) (hfit : fit ops N s o = true) (hr : ∀ w, (execOp (ev s) o).run P w = .ok (.enter f as) w)
    (hv : ∀ w, Inv c bs w → Calls P f as w (fun e w' => e = .returned v ∧ Below w.heap.size w w'))
    (h : LL P ops c N (put o.dst v s) bs Q rest) : LL P ops c N s bs Q (o :: rest) := fun a w hf hi => by
  obtain ⟨h1, h2, h3⟩ := fit_spec hfit
  refine wpList_step fun K hK => ?_
  rw [if_pos (hf.wants h1)]
  unfold Oper.wp
  rw [hf.execOp h2, hr]
  exact (hv w hi).mono fun e w' ⟨he, hb⟩ => by subst he; exact hK _ _ (h _ w' (hf.put h3 v) (hi.call hb))
/-- A call at which anything may come of the world: in a plain region. -/
theorem LL.enter (f : Nat) (as : Array Value) (hfit : fit ops N s o = true) (hr : ∀ w, (execOp (ev s) o).run P w = .ok (.enter f as) w)
    (h : ∀ w, Inv c bs w → Calls P f as w (fun e w' => ∃ v, e = .returned v ∧ ∀ a, Fr N (put o.dst v s) a → wpList P ops Q rest a w')) : LL P ops c N s bs Q (o :: rest) := fun a w hf hi => by
  obtain ⟨h1, h2, h3⟩ := fit_spec hfit
  refine wpList_step fun K hK => ?_
  rw [if_pos (hf.wants h1)]
  unfold Oper.wp
  rw [hf.execOp h2, hr]
  exact (h w hi).mono fun e w' ⟨v, he, hb⟩ => by subst he; exact hK _ _ (hb _ (hf.put h3 v))

/-! ### Loads, stores, new variables -/
/-- The variable of type 't' at offset 'off' of a row of cells. -/
def ldv (P : Program) (t : TypeId) (cs : List Value) (off : Nat) : Option Value :=
  match P.underlying t, P.info? t with
  | some d, some i => if d.isRow then (if Nat.ble (off + i.size) cs.length then some (.agg ((cs.drop off).take i.size).toArray) else none) else cs[off]?
  | _, _ => none
theorem run_ldv {t g off : Nat} {cs : List Value} {v : Value} {w : World} {T : TypeId} (h : ldv P t cs off = some v) (hg : w.heap[g]? = some (.cells cs.toArray T (0, 0))) :
    (Instr.loadAt t (.pointer (some ⟨g, off, none⟩))).run P w = .ok v w := by
  unfold ldv at h
  cases hu : P.underlying t with
  | none => simp [hu] at h
  | some d =>
    cases hi : P.info? t with
    | none => simp [hu, hi] at h
    | some i =>
      simp only [hu, hi] at h
      by_cases hd : d.isRow = true
      · rw [if_pos hd] at h
        by_cases hl : Nat.ble (off + i.size) cs.length = true
        · rw [if_pos hl] at h
          cases h
          have hl' : off + i.size ≤ cs.length := by simpa using hl
          refine run_loadAt_mid w g off t _ d (fun j v hv => ?_) hu hd (by simp [hi]; omega)
          have hj : j < i.size := by
            have := (List.getElem?_eq_some_iff.1 hv).1
            simp at this; omega
          rw [List.getElem?_take_of_lt hj, List.getElem?_drop] at hv
          simp [World.cell?, hg, hv]
        · rw [if_neg hl] at h; cases h
      · rw [if_neg hd] at h
        have hagg : (isAgg t).run P w = .ok false w := by
          unfold isAgg
          rw [Sem.run_bind, run_underlying hu w]
          cases d <;> simp_all
        have hc : w.cell? ⟨g, off, none⟩ = some v := by simp [World.cell?, hg, h]
        simp [Instr.loadAt, Instr.sureAddr, loadVar, Sem.run_bind, hagg, load, Sem.run, hc]
theorem run_load {t g off : Nat} {cs : List Value} {v : Value} {w : World} {T : TypeId} {x : Operand} (ho : o.op = .load t x) (hx : ev s x = .pointer (some ⟨g, off, none⟩)) (h : ldv P t cs off = some v) (hg : w.heap[g]? = some (.cells cs.toArray T (0, 0))) :
    (execOp (ev s) o).run P w = .ok (.value v) w := by
  unfold execOp
  rw [ho]
  simp only [hx, Sem.run_bind, run_ldv h hg, Result.andThen_ok, Sem.run_pure]
/-- A load out of a named block. -/
theorem ld (i g off : Nat) {cs : List Value} {T : TypeId} {t : TypeId} {x : Operand} {v : Value} (ho : o.op = .load t x) (hx : ev s x = .pointer (some ⟨g, off, none⟩)) (hi : bs[i]? = some (g, cl cs T)) (h : ldv P t cs off = some v) :
    ∀ w, Inv c bs w → (execOp (ev s) o).run P w = .ok (.value v) w := fun _ hw => run_load ho hx h (hw.cells hi)

/-- A load out of a block that is kept. -/
theorem ldW {g off : Nat} {cs : List Value} {T : TypeId} {t : TypeId} {x : Operand} {v : Value} (ho : o.op = .load t x) (hx : ev s x = .pointer (some ⟨g, off, none⟩)) (hg : c.R.heap[g]? = some (.cells cs.toArray T (0, 0))) (hF : c.F g) (h : ldv P t cs off = some v) :
    ∀ w, Inv c bs w → (execOp (ev s) o).run P w = .ok (.value v) w := fun _ hw => run_load ho hx h ((hw.keep g hF).2.trans hg)

theorem Inv.alloc {w : World} (h : Inv c bs w) (cs : List Value) (T : TypeId) : Inv c ((w.heap.size, cl cs T) :: bs) (w.alloc (.cells cs.toArray T)) := h.new rfl
theorem run_box {t : TypeId} {x : Operand} {cs : List Value} (ho : o.op = .box t x) (hx : (ev s x).cells.toList = cs) (w : World) : (execOp (ev s) o).run P w = .ok (.value (.pointer (some ⟨w.heap.size, 0, none⟩))) (w.alloc (.cells cs.toArray t)) := by
  have : (ev s x).cells = cs.toArray := by rw [← hx]
  unfold execOp
  rw [ho]
  show Result.ok (Next.value (.pointer (some ⟨w.heap.size, 0, none⟩))) { w with heap := w.heap.push (.cells (ev s x).cells t (0, 0)) } = _
  rw [this]; rfl
theorem LL.box (t : TypeId) (x : Operand) (cs : List Value) (hfit : fit ops N s o = true) (ho : o.op = .box t x) (hx : (ev s x).cells.toList = cs)
    (h : ∀ g, LL P ops c N (put o.dst (.pointer (some ⟨g, 0, none⟩)) s) ((g, cl cs t) :: bs) Q rest) : LL P ops c N s bs Q (o :: rest) := fun a w hf hi => by
  obtain ⟨h1, h2, h3⟩ := fit_spec hfit
  refine wpList_step fun K hK => ?_
  rw [if_pos (hf.wants h1)]
  unfold Oper.wp
  rw [hf.execOp h2, run_box ho hx]
  exact hK _ _ (h _ _ _ (hf.put h3 _) (hi.alloc cs t))
def zeroOf (P : Program) (t : TypeId) : Option (List Value) := (P.info? t).bind fun i => i.zero.map fun z => z.cells.toList
theorem run_alloc {t : TypeId} {cs : List Value} (ho : o.op = .alloc t) (hz : zeroOf P t = some cs) (w : World) : (execOp (ev s) o).run P w = .ok (.value (.pointer (some ⟨w.heap.size, 0, none⟩))) (w.alloc (.cells cs.toArray t)) := by
  unfold zeroOf at hz
  cases hq : P.info? t with
  | none => simp [hq] at hz
  | some i =>
    cases hz' : i.zero with
    | none => simp [hq, hz'] at hz
    | some z =>
      have : z.cells = cs.toArray := by simp [hq, hz'] at hz; rw [← hz]
      unfold execOp
      rw [ho]
      have hzr : (zeroValue t).run P w = .ok z w := by simp [zeroValue, typeInfo, hq, hz', program, Sem.run]
      simp only [Instr.alloc, Sem.run_bind, hzr, Result.andThen_ok]
      show Result.ok (Next.value (.pointer (some ⟨w.heap.size, 0, none⟩))) { w with heap := w.heap.push (.cells z.cells t (0, 0)) } = _
      rw [this]; rfl
theorem LL.alloc (t : TypeId) (cs : List Value) (hfit : fit ops N s o = true) (ho : o.op = .alloc t) (hz : zeroOf P t = some cs)
    (h : ∀ g, LL P ops c N (put o.dst (.pointer (some ⟨g, 0, none⟩)) s) ((g, cl cs t) :: bs) Q rest) : LL P ops c N s bs Q (o :: rest) := fun a w hf hi => by
  obtain ⟨h1, h2, h3⟩ := fit_spec hfit
  refine wpList_step fun K hK => ?_
  rw [if_pos (hf.wants h1)]
  unfold Oper.wp
  rw [hf.execOp h2, run_alloc ho hz]
  exact hK _ _ (h _ _ _ (hf.put h3 _) (hi.alloc cs t))

/-- What a row of cells is once a value's cells are stored at an offset. -/
def stv (P : Program) (t : TypeId) (cs : List Value) (off : Nat) (v : Value) : Option (List Value) :=
  match P.info? t with
  | some i => if Nat.beq v.cells.size i.size && Nat.ble (off + i.size) cs.length && v.cells.toList.all (·.oneCell') then some (cs.take off ++ v.cells.toList ++ cs.drop (off + i.size)) else none
  | none => none
theorem setCells_keeps (g : Nat) : ∀ (vs : List Value) (off : Nat) (w : World), (w.setCells g off vs).os = w.os ∧ (w.setCells g off vs).tape = w.tape ∧ (w.setCells g off vs).output = w.output ∧ (w.setCells g off vs).heap.size = w.heap.size ∧ ∀ k, k ≠ g → (w.setCells g off vs).heap[k]? = w.heap[k]?
  | [], _, _ => ⟨rfl, rfl, rfl, rfl, fun _ _ => rfl⟩
  | v :: r, off, w => by
    obtain ⟨h1, h2, h3, h4, h5⟩ := setCells_keeps g r (off + 1) (w.setCell ⟨g, off, none⟩ v)
    refine ⟨h1, h2, h3, h4.trans (by simp [World.setCell]), fun k hk => (h5 k hk).trans ?_⟩
    exact Below.heap_setCell _ _ _ _ hk
theorem setCells_cells (g : Nat) {T : TypeId} : ∀ (vs : List Value) (off : Nat) (cs : List Value) (w : World), off + vs.length ≤ cs.length → w.heap[g]? = some (.cells cs.toArray T (0, 0)) →
    (w.setCells g off vs).heap[g]? = some (.cells (cs.take off ++ vs ++ cs.drop (off + vs.length)).toArray T (0, 0))
  | [], off, cs, w, _, hg => by simp [World.setCells, hg]
  | v :: r, off, cs, w, hl, hg => by
    simp only [List.length_cons] at hl
    have h1 : (w.setCell ⟨g, off, none⟩ v).heap[g]? = some (.cells (cs.set off v).toArray T (0, 0)) := by
      simp [World.setCell, Array.getElem?_modify, hg]
    have := setCells_cells g r (off + 1) (cs.set off v) (w.setCell ⟨g, off, none⟩ v) (by simp; omega) h1
    simp only [World.setCells]
    rw [this]
    congr 3
    have e1 : (cs.set off v).take (off + 1) = cs.take off ++ [v] := by
      rw [List.take_succ_eq_append_getElem (by simp; omega), List.take_set, List.set_eq_of_length_le (by simp; omega)]
      simp
    have e2 : (cs.set off v).drop (off + 1 + r.length) = cs.drop (off + (r.length + 1)) := by
      rw [List.drop_set_of_lt (by omega)]
      congr 1; omega
    rw [e1, e2]; simp
theorem run_stv {t g off : Nat} {cs cs' : List Value} {v : Value} {w : World} {T : TypeId} (h : stv P t cs off v = some cs') (hg : w.heap[g]? = some (.cells cs.toArray T (0, 0))) :
    ∃ w', (Instr.storeAt t (.pointer (some ⟨g, off, none⟩)) v).run P w = .ok () w' ∧ w'.os = w.os ∧ w'.tape = w.tape ∧ w'.output = w.output ∧ w'.heap.size = w.heap.size ∧ (∀ k, k ≠ g → w'.heap[k]? = w.heap[k]?) ∧ w'.heap[g]? = some (.cells cs'.toArray T (0, 0)) := by
  unfold stv at h
  cases hi : P.info? t with
  | none => simp [hi] at h
  | some i =>
    simp only [hi] at h
    by_cases hb : (Nat.beq v.cells.size i.size && Nat.ble (off + i.size) cs.length && v.cells.toList.all (·.oneCell')) = true
    · rw [if_pos hb] at h
      cases h
      simp only [Bool.and_eq_true, Nat.beq_eq, Nat.ble_eq] at hb
      obtain ⟨⟨hb1, hb2⟩, hb3⟩ := hb
      have hl : v.cells.toList.length = i.size := by simpa using hb1
      have hrun := run_storeCells_cells (P := P) g off v.cells.toList 0 w
        (fun j hj => by
          have : off + j < cs.length := by omega
          simp [World.cell?, hg, this])
        (fun j hj => by simp [World.frozen?, hg])
        (fun u hu => List.all_eq_true.1 hb3 u hu)
      obtain ⟨k1, k2, k3, k4, k5⟩ := setCells_keeps g v.cells.toList off w
      refine ⟨w.setCells g off v.cells.toList, ?_, k1, k2, k3, k4, k5, ?_⟩
      · have hs : (sizeOf t).run P w = .ok i.size w := by simp [sizeOf, typeInfo, hi, program, Sem.run]
        have hrun' : (storeCells ⟨g, off, none⟩ v.cells.toList 0).run P w = .ok () (w.setCells g off v.cells.toList) := by simpa using hrun
        simp only [Instr.storeAt, Instr.sureAddr, Sem.run_bind, Sem.run_pure, Result.andThen_ok, storeVar, hs]
        rw [if_neg (by omega)]
        exact hrun'
      · have := setCells_cells g (T := T) v.cells.toList off cs w (by omega) hg
        rw [this, hl]
    · rw [if_neg hb] at h; cases h
theorem LL.store (i g off : Nat) (t : TypeId) (x y : Operand) {cs : List Value} (cs' : List Value) {bs' : Bs} {T : TypeId} (hbs : bs.set i (g, cl cs' T) = bs') (hfit : fit ops N s o = true) (ho : o.op = .store t x y) (hx : ev s x = .pointer (some ⟨g, off, none⟩)) (hi : bs[i]? = some (g, cl cs T)) (hst : stv P t cs off (ev s y) = some cs')
    (h : LL P ops c N (put o.dst undef s) bs' Q rest) : LL P ops c N s bs Q (o :: rest) := fun a w hf hw => by
  subst hbs
  obtain ⟨h1, h2, h3⟩ := fit_spec hfit
  refine wpList_step fun K hK => ?_
  rw [if_pos (hf.wants h1)]
  obtain ⟨w', hr, k1, k2, k3, k4, k5, k6⟩ := run_stv (w := w) hst (hw.cells hi)
  have hrun : (execOp (ev s) o).run P w = .ok .skip w' := by
    unfold execOp
    rw [ho]
    simp only [hx, Sem.run_bind, hr, Result.andThen_ok, Sem.run_pure]
  unfold Oper.wp
  rw [hf.execOp h2, hrun]
  exact hK _ _ (h _ _ (hf.put h3 _) (hw.turn hi k1 k2 k3 k4 k5 k6 rfl))

/-! ### A region that draws its order and does more than read: whatever order comes -/
/-- Whatever comes up from here on; 'b0' is what holds all along. -/
def HH (P : Program) (ops : Array Oper) (Z : World → Prop) (c : Cx) (N : Nat) (s : S) (bs : Bs) (Q : Exit → Act → World → Prop) (fuel : Nat) (listed : Array Bool) : Prop :=
  ∀ a w, Fr N s a → Inv c bs w → wpAnyH P .any ops (NoPanic Q) Z fuel listed a w
theorem J.held {id : Nat} {l : List Oper} (hm : P.follows .mixedOrders = true) (h : HH P l.toArray (Inv c bs) c N s bs Q l.length (Array.replicate l.length false)) : J P c N s bs Q (.region id l.toArray true) :=
  fun a w hf hi => wp_region_noPanic (wp_region_held (S := Inv c bs) hm (by simpa using h a _ hf hi.drew))
theorem J.heldBut {id : Nat} {l : List Oper} (b0 : Bs) (hm : P.follows .mixedOrders = true) (h : HH P l.toArray (Inv c b0) c N s bs Q l.length (Array.replicate l.length false)) : J P c N s bs Q (.region id l.toArray true) :=
  fun a w hf hi => wp_region_noPanic (wp_region_held (S := Inv c b0) hm (by simpa using h a _ hf hi.drew))
variable {Z : World → Prop} {fuel : Nat} {listed : Array Bool}
def HH.ok (ops : Array Oper) (listed : Array Bool) (i : Nat) : Bool := Region.noSelect ops && Region.free .any ops listed i && (Region.ready .any ops listed).contains i
theorem HH.take (i : Nat) (v : Value) (hi : ops[i]? = some o) (hok : HH.ok ops listed i = true) (hfit : fit ops N s o = true) (hs : ∀ w, Inv c bs w → Z w) (hv : ∀ w, Z w → (execOp (ev s) o).run P w = .ok (.value v) w)
    (h : HH P ops Z c N (put o.dst v s) bs Q fuel (listed.setIfInBounds i true)) : HH P ops Z c N s bs Q (fuel + 1) listed := fun a w hf hw => by
  obtain ⟨h1, h2, h3⟩ := fit_spec hfit
  simp only [HH.ok, Bool.and_eq_true] at hok
  exact wpAnyH_take hi hok.1.1 hok.1.2 hok.2 (fun _ _ _ h => h) (.inl ⟨hf.wants h1, fun w hw => by rw [hf.execOp h2]; exact hv w hw⟩) (hs w hw) (h _ _ (hf.put h3 v) hw)
theorem HH.off (i : Nat) (hi : ops[i]? = some o) (hok : HH.ok ops listed i = true) (hw' : wants ops s o = some false) (hd : o.dst.all (fun k => Nat.blt k N) = true) (hs : ∀ w, Inv c bs w → Z w)
    (h : HH P ops Z c N (put o.dst undef s) bs Q fuel (listed.setIfInBounds i true)) : HH P ops Z c N s bs Q (fuel + 1) listed := fun a w hf hw => by
  simp only [HH.ok, Bool.and_eq_true] at hok
  exact wpAnyH_take hi hok.1.1 hok.1.2 hok.2 (fun _ _ _ h => h) (.inr ⟨hf.wants hw', rfl⟩) (hs w hw) (h _ _ (hf.put hd _) hw)
theorem HH.bool (d : Nat) (b b' : Bool) (e : b = b') (hd : get s d = some (.bool b)) (h : HH P ops Z c N ((d, .bool b') :: s) bs Q fuel listed) : HH P ops Z c N s bs Q fuel listed := fun a w hf hi => h a w (hf.bool hd e) hi
/-- Number 'i' comes up now. -/
def HS (P : Program) (ops : Array Oper) (Z : World → Prop) (c : Cx) (N : Nat) (s : S) (bs : Bs) (Q : Exit → Act → World → Prop) (fuel : Nat) (listed : Array Bool) (i : Nat) : Prop :=
  ∀ a w, Fr N s a → Inv c bs w → wpOp P ops (NoPanic Q) i (fun a' w' => Z w' ∧ wpAnyH P .any ops (NoPanic Q) Z fuel (listed.setIfInBounds i true) a' w') a w
theorem HH.all (rs : List Nat) (hr : Region.ready .any ops listed = rs) (hne : rs.isEmpty = false) (h : ∀ i ∈ rs, HS P ops Z c N s bs Q fuel listed i) : HH P ops Z c N s bs Q (fuel + 1) listed := fun a w hf hi =>
  wpAnyH_all hr (by intro e; rw [e] at hne; cases hne) (fun i hm => h i hm a w hf hi)
theorem HH.done {s' : S} (l : List Nat) (hr : Region.ready .any ops listed = []) (e : keep s l = s') (h : NN c N s' bs Q .normal) : HH P ops Z c N s bs Q fuel listed := fun a w hf hi =>
  wpAnyH_done hr (NoPanic.normal (h a w (hf.to l e) hi)) _
theorem HS.of {i : Nat} (hi : ops[i]? = some o) (hfit : fit ops N s o = true)
    (h : ∀ (K : Act → World → Prop) (Q' : Exit → Act → World → Prop), (∀ c' v s' bs' w', s' = put o.dst v s → Inv c' bs' w' → Z w' → HH P ops Z c' N s' bs' Q fuel (listed.setIfInBounds i true) → ∀ a', Fr N s' a' → K a' w') → ∀ a w, Fr N s a → Inv c bs w → o.wp P a w K Q') : HS P ops Z c N s bs Q fuel listed i := fun a w hf hw => by
  obtain ⟨h1, h2, h3⟩ := fit_spec hfit
  unfold wpOp
  simp only [hi, hf.wants h1, if_true]
  exact .inl (h _ _ (fun _ v s' bs' w' _ hb h0 hH a' hf' => ⟨h0, hH a' w' hf' hb⟩) a w hf hw)
theorem HS.op {i : Nat} (v : Value) (hi : ops[i]? = some o) (hfit : fit ops N s o = true) (hs : ∀ w, Inv c bs w → Z w) (hv : ∀ w, Inv c bs w → (execOp (ev s) o).run P w = .ok (.value v) w)
    (h : HH P ops Z c N (put o.dst v s) bs Q fuel (listed.setIfInBounds i true)) : HS P ops Z c N s bs Q fuel listed i := HS.of hi hfit fun K Q' hK a w hf hw => by
  obtain ⟨h1, h2, h3⟩ := fit_spec hfit
  unfold Oper.wp
  rw [hf.execOp h2, hv w hw]
  exact hK _ v _ bs w rfl hw (hs w hw) h _ (hf.put h3 v)
theorem HS.alloc {i : Nat} (t : TypeId) (cs : List Value) (hi : ops[i]? = some o) (hfit : fit ops N s o = true) (ho : o.op = .alloc t) (hz : zeroOf P t = some cs) (hs : ∀ w, Inv c bs w → Z w)
    (h : ∀ g, HH P ops Z c N (put o.dst (.pointer (some ⟨g, 0, none⟩)) s) ((g, cl cs t) :: bs) Q fuel (listed.setIfInBounds i true)) : HS P ops Z c N s bs Q fuel listed i := HS.of hi hfit fun K Q' hK a w hf hw => by
  obtain ⟨h1, h2, h3⟩ := fit_spec hfit
  unfold Oper.wp
  rw [hf.execOp h2, run_alloc ho hz]
  have hw' := hw.alloc cs t
  exact hK _ _ _ _ _ rfl hw' (hs _ (hw'.sub (List.sublist_cons_self _ _))) (h _) _ (hf.put h3 _)
theorem HS.box {i : Nat} (t : TypeId) (x : Operand) (cs : List Value) (hi : ops[i]? = some o) (hfit : fit ops N s o = true) (ho : o.op = .box t x) (hx : (ev s x).cells.toList = cs) (hs : ∀ w, Inv c bs w → Z w)
    (h : ∀ g, HH P ops Z c N (put o.dst (.pointer (some ⟨g, 0, none⟩)) s) ((g, cl cs t) :: bs) Q fuel (listed.setIfInBounds i true)) : HS P ops Z c N s bs Q fuel listed i := HS.of hi hfit fun K Q' hK a w hf hw => by
  obtain ⟨h1, h2, h3⟩ := fit_spec hfit
  unfold Oper.wp
  rw [hf.execOp h2, run_box ho hx]
  have hw' := hw.alloc cs t
  exact hK _ _ _ _ _ rfl hw' (hs _ (hw'.sub (List.sublist_cons_self _ _))) (h _) _ (hf.put h3 _)
theorem HS.store {i : Nat} (k g off : Nat) (t : TypeId) (x y : Operand) {cs : List Value} (cs' : List Value) {bs' : Bs} {T : TypeId} (hbs : bs.set k (g, cl cs' T) = bs') (hi : ops[i]? = some o) (hfit : fit ops N s o = true) (ho : o.op = .store t x y) (hx : ev s x = .pointer (some ⟨g, off, none⟩)) (hb : bs[k]? = some (g, cl cs T)) (hst : stv P t cs off (ev s y) = some cs')
    (hs : ∀ w, Inv c bs' w → Z w)
    (h : HH P ops Z c N (put o.dst undef s) bs' Q fuel (listed.setIfInBounds i true)) : HS P ops Z c N s bs Q fuel listed i := by
  subst hbs
  exact HS.of hi hfit fun K Q' hK a w hf hw => by
    obtain ⟨h1, h2, h3⟩ := fit_spec hfit
    obtain ⟨w', hr, k1, k2, k3, k4, k5, k6⟩ := run_stv (w := w) hst (hw.cells hb)
    have hrun : (execOp (ev s) o).run P w = .ok .skip w' := by
      unfold execOp
      rw [ho]
      simp only [hx, Sem.run_bind, hr, Result.andThen_ok, Sem.run_pure]
    unfold Oper.wp
    rw [hf.execOp h2, hrun]
    have hw' := hw.turn hb k1 k2 k3 k4 k5 k6 (ψ := cl cs' T) rfl
    exact hK _ _ _ _ _ rfl hw' (hs _ hw') h _ (hf.put h3 _)
/-- A call whose result and memory are told by what follows. -/
theorem HS.enter {i : Nat} (f : Nat) (as : Array Value) (hi : ops[i]? = some o) (hfit : fit ops N s o = true) (hr : ∀ w, (execOp (ev s) o).run P w = .ok (.enter f as) w)
    (h : ∀ w, Inv c bs w → Calls P f as w (fun e w' => ∃ v bs', e = .returned v ∧ Inv c bs' w' ∧ Z w' ∧ HH P ops Z c N (put o.dst v s) bs' Q fuel (listed.setIfInBounds i true))) : HS P ops Z c N s bs Q fuel listed i := HS.of hi hfit fun K Q' hK a w hf hw => by
  obtain ⟨h1, h2, h3⟩ := fit_spec hfit
  unfold Oper.wp
  rw [hf.execOp h2, hr]
  exact (h w hw).mono fun e w' ⟨v, bs', he, hb, hb0, hH⟩ => by subst he; exact hK _ _ _ _ _ rfl hb hb0 hH _ (hf.put h3 v)
theorem HS.call {i : Nat} (f : Nat) (as : Array Value) (v : Value) (hi : ops[i]? = some o) (hfit : fit ops N s o = true) (hr : ∀ w, (execOp (ev s) o).run P w = .ok (.enter f as) w) (hs : ∀ w, Inv c bs w → Z w)
    (hv : ∀ w, Inv c bs w → Calls P f as w (fun e w' => e = .returned v ∧ Below w.heap.size w w'))
    (h : HH P ops Z c N (put o.dst v s) bs Q fuel (listed.setIfInBounds i true)) : HS P ops Z c N s bs Q fuel listed i :=
  HS.enter f as hi hfit hr fun w hw => (hv w hw).mono fun _ w' ⟨he, hb⟩ => ⟨v, bs, he, hw.call hb, hs _ (hw.call hb), h⟩

/-! ### The end -/
theorem results_1 {fn : Func} {t : Nat} {v : Value} {a : Act} (hf : Fr N s a) (hr : fn.results = #[.tmp t]) (hv : get s t = some v) (w : World) : (results fn a.tmps).run P w = .ok v w := by
  rw [results_tmp hr, Array.getD_eq_getD_getElem?, hf.at_ t v hv]; rfl
theorem results_2 {fn : Func} {t u : Nat} {v v' : Value} {a : Act} (hf : Fr N s a) (hr : fn.results = #[.tmp t, .tmp u]) (hv : get s t = some v) (hv' : get s u = some v') (w : World) : (results fn a.tmps).run P w = .ok (.tuple #[v, v']) w := by
  rw [results_tmp2 hr, Array.getD_eq_getD_getElem?, Array.getD_eq_getD_getElem?, hf.at_ t v hv, hf.at_ u v' hv']; rfl
/-- What the results come to, out of the slots that are known. -/
def resv (s : S) (bsv : Nat → Option (List Value)) (P : Program) : ResultVar → Option Value
  | .tmp t => get s t
  | .cell t ty => match get s t with
    | some (.pointer (some ⟨g, off, none⟩)) => (bsv g).bind fun cs => ldv P ty cs off
    | _ => none
theorem fin {fn : Func} {R : Ending → World → Prop} {e : Exit} (v : Value) (he : e = .ret ∨ e = .normal)
    (hr : ∀ a w, Fr N s a → Inv c bs w → (results fn a.tmps).run P w = .ok v w) (h : ∀ w, Inv c bs w → R (.returned v) w) : NN c N s bs (bodyPost P fn R) e := fun a w hf hi => by
  rcases he with rfl | rfl <;> exact ⟨hf.defers, v, hr a w hf hi, h w hi⟩
theorem NN.fin1 {fn : Func} {R : Ending → World → Prop} {e : Exit} (t : Nat) (v : Value) (hr : fn.results = #[.tmp t]) (hv : get s t = some v) (he : e = .ret ∨ e = .normal) (h : ∀ w, Inv c bs w → R (.returned v) w) : NN c N s bs (bodyPost P fn R) e :=
  fin v he (fun _ w hf _ => results_1 hf hr hv w) h
theorem NN.fin2 {fn : Func} {R : Ending → World → Prop} {e : Exit} (t u : Nat) (v v' : Value) (hr : fn.results = #[.tmp t, .tmp u]) (hv : get s t = some v) (hv' : get s u = some v') (he : e = .ret ∨ e = .normal) (h : ∀ w, Inv c bs w → R (.returned (.tuple #[v, v'])) w) : NN c N s bs (bodyPost P fn R) e :=
  fin _ he (fun _ w hf _ => results_2 hf hr hv hv' w) h
/-- The post of a function that only makes memory. -/
def Ret (w : World) (v : Value) : Ending → World → Prop := fun e w' => e = .returned v ∧ Below w.heap.size w w'
theorem Inv.ret {w : World} {bs : Bs} {c : Cx} (h : Inv c bs w) {v v' : Value} (e : v' = v) : Ret c.W v (.returned v') w := ⟨by rw [e], h.below⟩
def startS : List Value → Nat → S
  | [], _ => []
  | v :: r, k => (k, v) :: startS r (k + 1)
theorem get_startS : ∀ (l : List Value) (k i : Nat) (v : Value), get (startS l k) i = some v → k ≤ i ∧ l[i - k]? = some v
  | [], _, _, _, h => by simp [startS, get] at h
  | u :: r, k, i, v, h => by
    simp only [startS, get] at h
    by_cases e : Nat.beq k i = true
    · rw [if_pos e] at h
      have : k = i := by simpa using e
      subst this; simpa using h
    · rw [if_neg e] at h
      obtain ⟨h1, h2⟩ := get_startS r (k + 1) i v h
      refine ⟨by omega, ?_⟩
      have : i - k = (i - (k + 1)) + 1 := by omega
      rw [this]; simpa using h2
/-- The beginning. -/
theorem calls {f : FuncId} {fn : Func} {x : Code} {args : List Value} {W : World} {R : Ending → World → Prop} (hf : P.funcs[f]? = some fn) (hb : fn.body = some x)
    (hN : fn.ntmps = N) (hle : Nat.ble args.length N = true) (h : J P (Cx.start W) N (startS args 0) [] (bodyPost P fn R) x) : Calls P f args.toArray W R :=
  calls_of_wp hf hb (h _ _ ⟨by simp at hle; simp [hN]; omega, rfl, fun i v hv => by
    obtain ⟨_, h2⟩ := get_startS args 0 i v hv
    rw [Nat.sub_zero] at h2
    have hlt : i < args.length := (List.getElem?_eq_some_iff.1 h2).1
    rw [Array.getElem?_append_left (by simpa using hlt)]; simpa using h2⟩ (Inv.start W))
/-- A loop. -/
theorem J.loop {x : Code} (I : Nat → S → Bs → Prop) (n : Nat) (h0 : I n s bs) (round : ∀ n s bs, I n s bs → J P c N s bs (Exit.then (fun a w => ∃ n' s' bs', n' < n ∧ I n' s' bs' ∧ Fr N s' a ∧ Inv c bs' w) Q) x) : J P c N s bs Q (.loop x) := fun a w hf hi =>
  wp_loop_ghost (fun n a w => ∃ s bs, I n s bs ∧ Fr N s a ∧ Inv c bs w) n ⟨s, bs, h0, hf, hi⟩ fun n a w ⟨s, bs, h, hf, hi⟩ =>
    wp_mono (round n s bs h a w hf hi) fun e a w hq => by
      cases e with
      | normal => obtain ⟨n', s', bs', h1, h2, h3, h4⟩ := hq; exact ⟨n', h1, s', bs', h2, h3, h4⟩
      | _ => exact hq
theorem NN.round' {n n' : Nat} {I : Nat → S → Bs → Prop} {s' : S} {bs' : Bs} (l : List Nat) (hlt : n' < n) (hs : bs'.Sublist bs) (e : Saw.keep s l = s') (h : I n' s' bs') : NN c N s bs (Exit.then (fun a w => ∃ n' s' bs', n' < n ∧ I n' s' bs' ∧ Fr N s' a ∧ Inv c bs' w) Q) .normal :=
  fun _ _ hf hi => ⟨n', s', bs', hlt, h, hf.to l e, hi.sub hs⟩
theorem NN.round {n n' : Nat} {I : Nat → S → Bs → Prop} {s' : S} (l : List Nat) (hlt : n' < n) (e : keep s l = s') (h : I n' s' bs) : NN c N s bs (Exit.then (fun a w => ∃ n' s' bs', n' < n ∧ I n' s' bs' ∧ Fr N s' a ∧ Inv c bs' w) Q) .normal :=
  fun _ _ hf hi => ⟨n', s', bs, hlt, h, hf.to l e, hi⟩

/-! ### The ways out, as the walk meets them -/
theorem NN.then_exit {K : Act → World → Prop} {id : Nat} (h : NN c N s bs Q (.exit id)) : NN c N s bs (Exit.then K Q) (.exit id) := h
theorem NN.then_ret {K : Act → World → Prop} (h : NN c N s bs Q .ret) : NN c N s bs (Exit.then K Q) .ret := h
theorem NN.block_n {id : Nat} (h : NN c N s bs Q .normal) : NN c N s bs (Exit.inBlock id Q) .normal := h
theorem NN.block_ret {id : Nat} (h : NN c N s bs Q .ret) : NN c N s bs (Exit.inBlock id Q) .ret := h
theorem NN.block_same {id : Nat} (h : NN c N s bs Q .normal) : NN c N s bs (Exit.inBlock id Q) (.exit id) := fun a w hf hi => by
  show (if id = id then Q .normal a w else Q (.exit id) a w)
  rw [if_pos rfl]; exact h a w hf hi
theorem NN.block_other {id id' : Nat} (hne : id' ≠ id) (h : NN c N s bs Q (.exit id')) : NN c N s bs (Exit.inBlock id Q) (.exit id') := fun a w hf hi => by
  show (if id' = id then Q .normal a w else Q (.exit id') a w)
  rw [if_neg hne]; exact h a w hf hi
theorem J.scope {x : Code} (h : J P c N s bs (Exit.noGoto Q) x) : J P c N s bs Q (.scope x) := fun a w hf hi => wp_scope_straight (h a w hf hi)
theorem NN.scope_n (h : NN c N s bs Q .normal) : NN c N s bs (Exit.noGoto Q) .normal := h
theorem NN.scope_ret (h : NN c N s bs Q .ret) : NN c N s bs (Exit.noGoto Q) .ret := h
theorem NN.scope_exit {id : Nat} (h : NN c N s bs Q (.exit id)) : NN c N s bs (Exit.noGoto Q) (.exit id) := h
theorem J.rounds {x : Code} (n : Nat) (h : J P c N s bs (Exit.then (Code.rounds P x Q n) Q) x) : J P c N s bs Q (.loop x) := fun a w hf hi => wp_loop_rounds (n + 1) (h a w hf hi)
theorem NN.again {x : Code} {n : Nat} (h : J P c N s bs (Exit.then (Code.rounds P x Q n) Q) x) : NN c N s bs (Exit.then (Code.rounds P x Q (n + 1)) Q) .normal := h
theorem HH.all1 (i : Nat) (hr : Region.ready .any ops listed = [i]) (h : HS P ops Z c N s bs Q fuel listed i) : HH P ops Z c N s bs Q (fuel + 1) listed :=
  HH.all [i] hr rfl (fun j hj => by simp at hj; subst hj; exact h)
theorem HH.all2 (i j : Nat) (hr : Region.ready .any ops listed = [i, j]) (h : HS P ops Z c N s bs Q fuel listed i) (h' : HS P ops Z c N s bs Q fuel listed j) : HH P ops Z c N s bs Q (fuel + 1) listed :=
  HH.all [i, j] hr rfl (fun k hk => by simp at hk; rcases hk with rfl | rfl <;> assumption)
theorem HH.all3 (i j k : Nat) (hr : Region.ready .any ops listed = [i, j, k]) (h : HS P ops Z c N s bs Q fuel listed i) (h' : HS P ops Z c N s bs Q fuel listed j) (h'' : HS P ops Z c N s bs Q fuel listed k) : HH P ops Z c N s bs Q (fuel + 1) listed :=
  HH.all [i, j, k] hr rfl (fun l hl => by simp at hl; rcases hl with rfl | rfl | rfl <;> assumption)
/-- What one result comes to. -/
def rf (tmps : Array Value) : ResultVar → Sem Value
  | .tmp t => pure (tmps.getD t undef)
  | .cell a t => do loadVar t (← asAddr (tmps.getD a undef))
theorem results_eq (fn : Func) (tmps : Array Value) : results fn tmps = (do let vs ← fn.results.mapM (rf tmps); pure (if h : vs.size = 1 then vs[0] else .tuple vs)) := rfl
def RV (P : Program) (c : Cx) (N : Nat) (s : S) (bs : Bs) (x : ResultVar) (v : Value) : Prop :=
  ∀ a w, Fr N s a → Inv c bs w → (rf a.tmps x).run P w = .ok v w
theorem RV.tmp {t : Nat} {v : Value} (h : get s t = some v) : RV P c N s bs (.tmp t) v := fun a w hf _ => by
  show Result.ok (a.tmps.getD t undef) w = _
  rw [Array.getD_eq_getD_getElem?, hf.at_ t v h]; rfl
theorem RV.cell {d t : Nat} {v : Value} {cs : List Value} {T : TypeId} (i g off : Nat) (h : get s d = some (.pointer (some ⟨g, off, none⟩))) (hi : bs[i]? = some (g, cl cs T)) (hl : ldv P t cs off = some v) : RV P c N s bs (.cell d t) v := fun a w hf hw => by
  have e : a.tmps.getD d undef = .pointer (some ⟨g, off, none⟩) := by rw [Array.getD_eq_getD_getElem?, hf.at_ d _ h]; rfl
  unfold rf
  simp only [e]
  exact run_ldv hl (hw.cells hi)
theorem mapM1 {f : ResultVar → Sem Value} {x : ResultVar} {v : Value} {w : World} (h : (f x).run P w = .ok v w) : (#[x].mapM f).run P w = .ok #[v] w := by
  simp [h]
theorem mapM2 {f : ResultVar → Sem Value} {x y : ResultVar} {v u : Value} {w : World} (h : (f x).run P w = .ok v w) (h' : (f y).run P w = .ok u w) : (#[x, y].mapM f).run P w = .ok #[v, u] w := by
  simp [h, h']
theorem mapM3 {f : ResultVar → Sem Value} {x y z : ResultVar} {v u t : Value} {w : World} (h : (f x).run P w = .ok v w) (h' : (f y).run P w = .ok u w) (h'' : (f z).run P w = .ok t w) : (#[x, y, z].mapM f).run P w = .ok #[v, u, t] w := by
  simp [h, h', h'']
theorem resOk_1 {fn : Func} {x : ResultVar} {v : Value} (hr : fn.results = #[x]) (h : RV P c N s bs x v) : ∀ a w, Fr N s a → Inv c bs w → (results fn a.tmps).run P w = .ok v w := fun a w hf hi => by
  rw [results_eq, hr, Sem.run_bind, mapM1 (h a w hf hi)]; rfl
theorem resOk_2 {fn : Func} {x y : ResultVar} {v u : Value} (hr : fn.results = #[x, y]) (h : RV P c N s bs x v) (h' : RV P c N s bs y u) : ∀ a w, Fr N s a → Inv c bs w → (results fn a.tmps).run P w = .ok (.tuple #[v, u]) w := fun a w hf hi => by
  rw [results_eq, hr, Sem.run_bind, mapM2 (h a w hf hi) (h' a w hf hi)]; rfl
theorem resOk_3 {fn : Func} {x y z : ResultVar} {v u t : Value} (hr : fn.results = #[x, y, z]) (h : RV P c N s bs x v) (h' : RV P c N s bs y u) (h'' : RV P c N s bs z t) : ∀ a w, Fr N s a → Inv c bs w → (results fn a.tmps).run P w = .ok (.tuple #[v, u, t]) w := fun a w hf hi => by
  rw [results_eq, hr, Sem.run_bind, mapM3 (h a w hf hi) (h' a w hf hi) (h'' a w hf hi)]; rfl
theorem NN.finV {fn : Func} {R : Ending → World → Prop} {e : Exit} (v : Value) (he : e = .ret ∨ e = .normal) (hr : ∀ a w, Fr N s a → Inv c bs w → (results fn a.tmps).run P w = .ok v w) (h : ∀ w, Inv c bs w → R (.returned v) w) : NN c N s bs (bodyPost P fn R) e := fin v he hr h

/-! ### Operations that the kernel does not run by itself -/
theorem run_quo {t u : TypeId} {x y : Operand} {k : IntKind} {p q : Int} {v : Value} (ho : o.op = .binOp .quo t x y u) (hx : ev s x = .int k p) (hy : ev s y = .int k q) (hq : q ≠ 0) (hv : v = .int k (k.wrap (p.tdiv q))) : ∀ w, Inv c bs w → (execOp (ev s) o).run P w = .ok (.value v) w := fun w _ => by
  unfold execOp
  rw [ho]
  simp [hx, hy, eqGuard, binOp, Op.intDiv, hq, hv]
theorem run_rem {t u : TypeId} {x y : Operand} {k : IntKind} {p q : Int} {v : Value} (ho : o.op = .binOp .rem t x y u) (hx : ev s x = .int k p) (hy : ev s y = .int k q) (hq : q ≠ 0) (hv : v = .int k (p.tmod q)) : ∀ w, Inv c bs w → (execOp (ev s) o).run P w = .ok (.value v) w := fun w _ => by
  unfold execOp
  rw [ho]
  simp [hx, hy, eqGuard, binOp, Op.intDiv, hq, hv]
end

/-! ### Words of the printed functions -/
def mn (x y : Int) : Int := if y < x then y else x
def mx (x y : Int) : Int := if x < y then y else x
theorem bind_some {α β : Type} {x : Option α} {f : α → Option β} {r : β} (h : x.bind f = some r) : ∃ a, x = some a ∧ f a = some r := by
  cases x with
  | none => cases h
  | some a => exact ⟨a, rfl, h⟩
theorem nebf {α : Type} [BEq α] [LawfulBEq α] {a b : α} (h : (a == b) = false) : ¬ a = b := fun e => by
  subst e; simp at h
theorem nebt {b : Bool} (h : b = false) : ¬ b = true := by rw [h]; decide
end Go.Saw

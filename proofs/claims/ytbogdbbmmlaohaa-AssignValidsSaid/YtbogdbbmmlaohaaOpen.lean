/- How an argument that reads as data is opened, whatever its type: its cells one by one. -/
import Derived.OpenShut
import Derived.ChangeArms
import Derived.Below
import Derived.SizedLaws
import Derived.ProofKit
import Derived.KernelRfl
namespace Go.Saw
open Go.RowKit
set_option linter.unusedVariables false

inductive All2 {α β : Type} (R : α → β → Prop) : List α → List β → Prop
  | nil : All2 R [] []
  | cons {a : α} {b : β} {l : List α} {m : List β} (h : R a b) (t : All2 R l m) : All2 R (a :: l) (b :: m)
theorem All2.append {α β : Type} {R : α → β → Prop} {l l' : List α} {m m' : List β} (h : All2 R l m) (h' : All2 R l' m') : All2 R (l ++ l') (m ++ m') := by
  induction h with
  | nil => exact h'
  | cons h t ih => exact .cons h ih
theorem All2.length {α β : Type} {R : α → β → Prop} {l : List α} {m : List β} (h : All2 R l m) : l.length = m.length := by
  induction h with
  | nil => rfl
  | cons h t ih => simp [ih]
theorem All2.inv {α β : Type} {R : α → β → Prop} {a : α} {l : List α} {m : List β} (h : All2 R (a :: l) m) : ∃ b m', m = b :: m' ∧ R a b ∧ All2 R l m' := by
  cases h with
  | cons h t => exact ⟨_, _, rfl, h, t⟩
theorem All2.none {α β : Type} {R : α → β → Prop} {m : List β} (h : All2 R [] m) : m = [] := by cases h; rfl

/-- What a cell is. -/
inductive LD where
  | b
  | i (k : IntKind)
  | s
  | sl (e : TypeId)

section
variable {H : Type} {enc : TypeId × Value → H} {P : Program} {w : World} {base : Nat} {spare : Nat → Bool} {held : Bool}

def Leaf (enc : TypeId × Value → H) (P : Program) (w : World) (base : Nat) (spare : Nat → Bool) (held : Bool) : LD → Value → Prop
  | .b, v => ∃ b, v = .bool b
  | .i k, v => ∃ n, v = .int k n ∧ (Lit.int k n).wf = true
  | .s, v => ∃ s, v = .string s ∧ s.size ≤ maxLen
  | .sl e, v => v = .slice none 0 0 ∨ ∃ (a : Addr) (len cap : Nat), v = .slice (some a) len cap ∧ len ≤ cap ∧ cap ≤ maxLen ∧
      ∀ i, i < len → ∃ cs m x, w.cells? base (a.add (i * P.cellsOf e)) (P.cellsOf e) = some cs ∧ DataW.trod enc P w base spare held m e cs = some x

def leafsF (P : Program) (lf : TypeId → Option (List LD)) : List Field → Nat → Option (List LD)
  | [], _ => some []
  | f :: r, o => if f.offset = o then (lf f.type).bind fun l => if l.length = P.cellsOf f.type then (leafsF P lf r (o + l.length)).map (l ++ ·) else none else none
/-- The cells of a type, in order. -/
def leafs (P : Program) : Nat → TypeId → Option (List LD)
  | 0, _ => none
  | n + 1, t => match P.underlying t with
    | some .bool => some [.b]
    | some (.int k) => some [.i k]
    | some .string => some [.s]
    | some (.slice e) => some [.sl e]
    | some (.struct fs) => (leafsF P (leafs P n) fs.toList 0).bind fun l => if l.length = P.cellsOf t then some l else none
    | some (.array k e) => (leafs P n e).bind fun l => if l.length = P.cellsOf e ∧ k * P.cellsOf e = P.cellsOf t then some (List.replicate k l).flatten else none
    | _ => none

theorem leafsF_spec {lf : TypeId → Option (List LD)} {cs : List Value} : ∀ (fs : List Field) (o : Nat) (ls : List LD), leafsF P lf fs o = some ls →
    (∀ f ∈ fs, ∀ l, lf f.type = some l → All2 (Leaf enc P w base spare held) l ((cs.drop f.offset).take (P.cellsOf f.type))) → o + ls.length = cs.length → All2 (Leaf enc P w base spare held) ls (cs.drop o)
  | [], o, ls, h, _, hl => by
    simp only [leafsF, Option.some.injEq] at h
    subst h
    have : cs.drop o = [] := by simp at hl ⊢; omega
    rw [this]; exact .nil
  | f :: r, o, ls, h, hf, hl => by
    simp only [leafsF] at h
    by_cases e : f.offset = o
    · rw [if_pos e] at h
      cases hq : lf f.type with
      | none => simp [hq] at h
      | some l =>
        simp only [hq, Option.bind_some] at h
        by_cases e2 : l.length = P.cellsOf f.type
        · rw [if_pos e2] at h
          cases hr : leafsF P lf r (o + l.length) with
          | none => simp [hr] at h
          | some l' =>
            simp only [hr, Option.map_some, Option.some.injEq] at h
            subst h
            have h1 := hf f (List.mem_cons_self ..) l hq
            rw [e, ← e2] at h1
            have h2 := leafsF_spec r (o + l.length) l' hr (fun f hm => hf f (List.mem_cons_of_mem _ hm)) (by simp at hl; omega)
            have : cs.drop o = (cs.drop o).take l.length ++ cs.drop (o + l.length) := by
              rw [← List.drop_drop, List.take_append_drop]
            rw [this]
            exact h1.append h2
        · rw [if_neg e2] at h; cases h
    · rw [if_neg e] at h; cases h
theorem leafsA_spec {e : TypeId} {l : List LD} {cs : List Value} (hl : l.length = P.cellsOf e) : ∀ (k i : Nat), (∀ j, i ≤ j → j < i + k → All2 (Leaf enc P w base spare held) l ((cs.drop (j * P.cellsOf e)).take (P.cellsOf e))) → (i + k) * P.cellsOf e = cs.length →
    All2 (Leaf enc P w base spare held) (List.replicate k l).flatten (cs.drop (i * P.cellsOf e))
  | 0, i, _, hc => by
    have : cs.drop (i * P.cellsOf e) = [] := by simp at hc ⊢; omega
    rw [this]; exact .nil
  | k + 1, i, h, hc => by
    have h1 := h i (Nat.le_refl _) (by omega)
    have h2 := leafsA_spec hl k (i + 1) (fun j a b => h j (by omega) (by omega)) (by rw [← hc]; congr 1; omega)
    have : cs.drop (i * P.cellsOf e) = (cs.drop (i * P.cellsOf e)).take (P.cellsOf e) ++ cs.drop ((i + 1) * P.cellsOf e) := by
      rw [Nat.succ_mul, ← List.drop_drop, List.take_append_drop]
    rw [this, List.replicate_succ, List.flatten_cons]
    exact h1.append h2
theorem leafs_spec : ∀ (n : Nat) (t : TypeId) (ls : List LD) (fuel : Nat) (cs : List Value) (x : DataW H × List MemPlace), leafs P n t = some ls → DataW.trod enc P w base spare held fuel t cs = some x → All2 (Leaf enc P w base spare held) ls cs
  | 0, _, _, _, _, _, h, _ => by simp [leafs] at h
  | n + 1, t, ls, fuel, cs, x, h, hx => by
    unfold leafs at h
    cases hu : P.underlying t with
    | none => simp [hu] at h
    | some d =>
      have hx0 := hx
      cases d <;> simp only [hu] at h <;> try (cases h; done)
      case bool =>
        cases h
        cases fuel with
        | zero => simp [DataW.trod] at hx
        | succ m =>
          unfold DataW.trod at hx
          rw [hu] at hx
          split at hx <;> simp_all
          exact .cons ⟨_, rfl⟩ .nil
      case int k =>
        cases h
        cases fuel with
        | zero => simp [DataW.trod] at hx
        | succ m =>
          unfold DataW.trod at hx
          rw [hu] at hx
          split at hx <;> simp_all
          obtain ⟨⟨rfl, hw⟩, _⟩ := hx
          exact .cons ⟨_, rfl, hw⟩ .nil
      case string =>
        cases h
        cases fuel with
        | zero => simp [DataW.trod] at hx
        | succ m =>
          unfold DataW.trod at hx
          rw [hu] at hx
          split at hx <;> simp_all
          exact .cons ⟨_, rfl, hx.1⟩ .nil
      case slice e =>
        cases h
        rcases DataW.trod_slice hu hx with ⟨rfl, _⟩ | ⟨a, len, cap, elems, rest, m, _, rfl, _, _, hl, hm, hlen, hel, _⟩
        · exact .cons (.inl rfl) .nil
        · refine .cons (.inr ⟨a, len, cap, rfl, hl, hm, fun i hi => ?_⟩) .nil
          have := hel i hi
          cases hc : w.cells? base (a.add (i * P.cellsOf e)) (P.cellsOf e) with
          | none =>
            rw [hc] at this
            have : elems[i]? = none := by simpa using this.symm
            rw [List.getElem?_eq_none_iff] at this
            omega
          | some cs' =>
            rw [hc] at this
            have hi' : i < elems.length := by omega
            rw [List.getElem?_eq_getElem hi'] at this
            exact ⟨cs', m, _, rfl, this⟩
      case struct fs =>
        cases hq : leafsF P (leafs P n) fs.toList 0 with
        | none => simp [hq] at h
        | some l =>
          simp only [hq, Option.bind_some] at h
          by_cases e : l.length = P.cellsOf t
          · rw [if_pos e] at h
            cases h
            obtain ⟨xs, m, rfl, _, hl, hxl, hf⟩ := DataW.trod_struct hu hx
            have := leafsF_spec (enc := enc) (w := w) (base := base) (spare := spare) (held := held) (cs := cs) fs.toList 0 ls hq (fun f hf' l' hl' => by
              obtain ⟨i, hi⟩ := List.getElem?_of_mem hf'
              have h1 := hf i f (by simpa using hi)
              have hi' : i < xs.length := by
                have := (List.getElem?_eq_some_iff.1 hi).1
                simp at this; omega
              rw [List.getElem?_eq_getElem hi'] at h1
              exact leafs_spec n f.type l' m _ _ hl' h1) (by omega)
            simpa using this
          · rw [if_neg e] at h; cases h
      case array k e =>
        cases hq : leafs P n e with
        | none => simp [hq] at h
        | some l =>
          simp only [hq, Option.bind_some] at h
          by_cases e2 : l.length = P.cellsOf e ∧ k * P.cellsOf e = P.cellsOf t
          · rw [if_pos e2] at h
            cases h
            obtain ⟨xs, m, rfl, _, hl, hxl, hf⟩ := DataW.trod_array hu hx
            have := leafsA_spec (enc := enc) (w := w) (base := base) (spare := spare) (held := held) (cs := cs) e2.1 k 0 (fun j _ hj => by
              have h1 := hf j (by omega)
              rw [List.getElem?_eq_getElem (by omega)] at h1
              exact leafs_spec n e l m _ _ hq h1) (by rw [Nat.zero_add, e2.2, hl])
            simpa using this
          · rw [if_neg e2] at h; cases h

theorem leaf_b {l : List LD} {m : List Value} (h : All2 (Leaf enc P w base spare held) (.b :: l) m) : ∃ b m', m = .bool b :: m' ∧ All2 (Leaf enc P w base spare held) l m' := by
  obtain ⟨v, m', rfl, ⟨b, rfl⟩, h2⟩ := h.inv
  exact ⟨b, m', rfl, h2⟩
theorem leaf_i {k : IntKind} {l : List LD} {m : List Value} (h : All2 (Leaf enc P w base spare held) (.i k :: l) m) : ∃ n m', m = .int k n :: m' ∧ (Lit.int k n).wf = true ∧ All2 (Leaf enc P w base spare held) l m' := by
  obtain ⟨v, m', rfl, ⟨b, rfl, hb⟩, h2⟩ := h.inv
  exact ⟨b, m', rfl, hb, h2⟩
theorem leaf_s {l : List LD} {m : List Value} (h : All2 (Leaf enc P w base spare held) (.s :: l) m) : ∃ s m', m = .string s :: m' ∧ s.size ≤ maxLen ∧ All2 (Leaf enc P w base spare held) l m' := by
  obtain ⟨v, m', rfl, ⟨b, rfl, hb⟩, h2⟩ := h.inv
  exact ⟨b, m', rfl, hb, h2⟩
/-- A slice that reads: nil, or rows of cells each of which reads. -/
def Sl (enc : TypeId × Value → H) (P : Program) (w : World) (base : Nat) (spare : Nat → Bool) (held : Bool) (e : TypeId) (A : Option Addr) (n c : Nat) : Prop :=
  (A = none ∧ n = 0 ∧ c = 0) ∨ ∃ a, A = some a ∧ n ≤ c ∧ c ≤ maxLen ∧ ∀ i, i < n → ∃ cs m x, w.cells? base (a.add (i * P.cellsOf e)) (P.cellsOf e) = some cs ∧ DataW.trod enc P w base spare held m e cs = some x
theorem leaf_sl {e : TypeId} {l : List LD} {m : List Value} (h : All2 (Leaf enc P w base spare held) (.sl e :: l) m) : ∃ A n c m', m = .slice A n c :: m' ∧ Sl enc P w base spare held e A n c ∧ All2 (Leaf enc P w base spare held) l m' := by
  obtain ⟨v, m', rfl, hv, h9⟩ := h.inv
  rcases hv with rfl | ⟨a, n, c, rfl, h1, h2, h3⟩
  · exact ⟨none, 0, 0, m', rfl, .inl ⟨rfl, rfl, rfl⟩, h9⟩
  · exact ⟨some a, n, c, m', rfl, .inr ⟨a, rfl, h1, h2, h3⟩, h9⟩
theorem okWide_agg {t : TypeId} {d : TypeDesc} {v : Value} {r : Reach} (hu : P.underlying t = some d) (hd : (match d with | .struct _ | .array _ _ => true | _ => false) = true) (h : Value.okWide P w r base t v) : ∃ cs, v = .agg cs := by
  unfold Value.okWide at h
  rw [hu] at h
  cases d <;> simp at hd
  all_goals (obtain ⟨cs, rfl, _⟩ := h; exact ⟨cs, rfl⟩)
theorem agg_of {vc : Array Value} {l : List Value} (h : vc.toList = l) : vc = l.toArray := by rw [← h]
end
end Go.Saw

/- Open2: a list argument opened: the list behind a slice that reads, and what is known of it. -/
import Derived.DataReads
import Derived.Test.YtbogdbbmmlaohaaOpen
import Derived.Test.YtbogdbbmmlaohaaRows2
namespace Go.Saw
open Go.RowKit
set_option linter.unusedVariables false
section
variable {H : Type} {enc : TypeId × Value → H} {P : Program} {w : World} {base : Nat} {spare : Nat → Bool} {held : Bool} {r : Reach}
variable {E : Type} {en : E → List Value} {m : Nat} {good : E → Prop}
theorem spot_ok {u e : TypeId} {A : Option Addr} {n c : Nat} (hu : P.underlying u = some (.slice e)) (h : Cell.okWide P w r base u (.slice A n c)) : ∀ a, A = some a → a.spot = none := fun a ha => by
  subst ha
  simp only [Cell.okWide, hu, Cell.ok] at h
  exact h.2.2.2.1
theorem spot_arg {t e : TypeId} {A : Option Addr} {n c : Nat} (hu : P.underlying t = some (.slice e)) (h : Value.okWide P w r base t (.slice A n c)) : ∀ a, A = some a → a.spot = none := by
  unfold Value.okWide at h
  rw [hu] at h
  exact spot_ok hu h
theorem spot_cell {t u e : TypeId} {d : TypeDesc} {cs : Array Value} {i : Nat} {A : Option Addr} {n c : Nat} (hd : P.underlying t = some d) (hr : (match d with | .struct _ | .array _ _ => true | _ => false) = true) (h : Value.okWide P w r base t (.agg cs)) (hc : ((P.cellTypes P.depth t).bind fun ts => ts[i % ts.length]?) = some u) (hu : P.underlying u = some (.slice e)) (hi : cs[i]? = some (.slice A n c)) : ∀ a, A = some a → a.spot = none := by
  unfold Value.okWide at h
  rw [hd] at h
  have h' : ∃ cs', Value.agg cs = .agg cs' ∧ cs'.size = P.cellsOf t ∧ Row.okWide P w r base t cs' := by
    cases d <;> simp at hr <;> exact h
  obtain ⟨cs', e1, _, ts, h1, _, h2⟩ := h'
  cases e1
  obtain ⟨u', h3, h4⟩ := h2 i _ hi
  rw [h1] at hc
  simp only [Option.bind_some] at hc
  rw [h3] at hc
  cases hc
  exact spot_ok hu h4
theorem cells_get {a : Addr} {n : Nat} {cs : List Value} (h : w.cells? base a n = some cs) : ∀ j v, cs[j]? = some v → w.cell? (a.add j) = some v := by
  obtain ⟨_, h1, h2⟩ := World.cells?_some h
  intro j v hv
  have := (List.getElem?_eq_some_iff.1 hv).1
  rw [h2 j (by omega), hv]
theorem row_of {e : TypeId} (hm : P.cellsOf e = m) (ok : EncOk en m) (dec : ∀ fuel cs x, DataW.trod enc P w base spare held fuel e cs = some x → ∃ el, cs = en el ∧ good el) {A : Option Addr} {n c : Nat} (hs : Sl enc P w base spare held e A n c) (sp : ∀ a, A = some a → a.spot = none) :
    ∃ l : List E, n = l.length ∧ (∀ x ∈ l, good x) ∧ KRow (Cx.start w) en m l A := by
  rcases hs with ⟨rfl, rfl, rfl⟩ | ⟨a, rfl, _, _, hel⟩
  · exact ⟨[], rfl, by simp, KRow.nil⟩
  have hsp := sp a rfl
  obtain ⟨b, q, s⟩ := a
  dsimp only at hsp
  subst hsp
  have build : ∀ k, k ≤ n → ∃ l : List E, l.length = k ∧ (∀ x ∈ l, good x) ∧ KRow (Cx.start w) en m l (some ⟨b, q, none⟩) := by
    intro k
    induction k with
    | zero => intro _; exact ⟨[], rfl, by simp, KRow.nil⟩
    | succ k ih =>
      intro hk
      obtain ⟨l, h1, h2, h3⟩ := ih (by omega)
      obtain ⟨cs, f, x, hc, ht⟩ := hel k (by omega)
      obtain ⟨el, rfl, hg⟩ := dec f cs x ht
      refine ⟨l ++ [el], by simp [h1], fun y hy => ?_, fun i y hy => ?_⟩
      · rcases List.mem_append.1 hy with h | h
        · exact h2 y h
        · simp at h; subst h; exact hg
      · by_cases hi : i < l.length
        · rw [List.getElem?_append_left hi] at hy; exact h3 i y hy
        · have hik : i = k := by
            have := (List.getElem?_eq_some_iff.1 hy).1
            simp at this; omega
          subst hik
          rw [List.getElem?_append_right (by omega), h1, Nat.sub_self] at hy
          simp at hy
          subst hy
          rw [hm] at hc
          have hcell : ∀ j v, (en el)[j]? = some v → w.cell? ⟨b, q + i * m + j, none⟩ = some v := fun j v hv => by
            have := cells_get hc j v hv
            have ea : ((⟨b, q, none⟩ : Addr).add (i * m)).add j = ⟨b, q + i * m + j, none⟩ := by
              by_cases h0 : i * m = 0 <;> by_cases h1 : j = 0 <;> simp [Addr.add, h0, h1]
            rwa [ea] at this
          refine ⟨ok.len el, b, q, rfl, ?_, hcell⟩
          have hp : 0 < (en el).length := by rw [ok.len]; exact ok.pos
          have := hcell 0 _ (List.getElem?_eq_getElem hp)
          exact World.block_lt_of_cell? _ _ this
  obtain ⟨l, h1, h2, h3⟩ := build n (Nat.le_refl _)
  exact ⟨l, h1.symm, h2, h3⟩
theorem sized_any {t e : TypeId} {a : Option Addr} {len cap : Nat} {d : DataW H} {ps : List MemPlace} {ts : List TypeId} {ds : List (DataW H)} {j : Nat}
    (hsz : (DataW.weightsEach P ts ds).all (· ≤ reachBytes) = true) (ht : ts[j]? = some t) (hd : ds[j]? = some d) (hu : P.underlying t = some (.slice e)) {B : Nat} (hB : P.bytesOf e = B)
    (h : DataW.Trod enc P w base spare held t (.slice a len cap) d ps) : len * B ≤ 140737488351232 := by
  obtain ⟨fuel, hf⟩ := h
  rcases DataW.trod_slice hu hf with ⟨hcs, _⟩ | ⟨x, l, c, elems, rest, n, _, hcs, hx, _, _, _, hlen, _⟩
  · simp [Value.cells] at hcs
    obtain ⟨rfl, rfl, rfl⟩ := hcs
    simp
  · simp [Value.cells] at hcs
    obtain ⟨rfl, rfl, rfl⟩ := hcs
    obtain ⟨rfl, _⟩ := Prod.mk.inj hx
    have z := sized_slice hsz ht hd hu
    rw [hB, List.length_map, hlen] at z
    exact Nat.le_trans (Nat.mul_le_mul_right _ (by omega)) z
end
end Go.Saw

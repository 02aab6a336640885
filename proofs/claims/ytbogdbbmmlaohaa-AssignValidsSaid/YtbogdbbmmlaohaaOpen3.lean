/- Open3: lists of lists as arguments. -/
import Derived.Test.YtbogdbbmmlaohaaOps3
namespace Go.Saw
open Go.RowKit
set_option linter.unusedVariables false
section
variable {H : Type} {enc : TypeId × Value → H} {P : Program} {w : World} {base : Nat} {spare : Nat → Bool} {held : Bool} {r : Reach}
variable {E : Type} {en : E → List Value} {m : Nat} {good : E → Prop}
theorem row_of0 {e : TypeId} (hm : P.cellsOf e = m) (ok : EncOk en m) (dec : ∀ fuel cs x, DataW.trod enc P w base spare held fuel e cs = some x → ∃ el, cs = en el ∧ good el) {A : Option Addr} {n c : Nat} (hs : Sl enc P w base spare held e A n c) :
    ∃ l : List E, n = l.length ∧ (∀ x ∈ l, good x) ∧ KRow (Cx.start w) en m l A := by
  cases n with
  | zero => exact ⟨[], rfl, by simp, KRow.nil⟩
  | succ n =>
    refine row_of hm ok dec hs fun a ha => ?_
    subst ha
    rcases hs with ⟨h, _⟩ | ⟨a', h, _, _, hel⟩
    · cases h
    · cases h
      obtain ⟨cs, f, x, hc, ht⟩ := hel 0 (by omega)
      obtain ⟨el, rfl, _⟩ := dec f cs x ht
      rw [hm, Nat.zero_mul] at hc
      have hp : 0 < (en el).length := by rw [ok.len]; exact ok.pos
      have h1 := cells_get hc 0 _ (List.getElem?_eq_getElem hp)
      have e0 : (a.add 0).add 0 = a := by simp [Addr.add]
      rw [e0] at h1
      unfold World.cell? at h1
      cases hs : a.spot with
      | none => rfl
      | some b =>
        split at h1
        · simp [hs] at h1
        · cases h1
theorem row_of2 {e i : TypeId} (he : P.cellsOf e = 1) (hm : P.cellsOf i = m) (ok : EncOk en m) (dec : ∀ fuel cs x, DataW.trod enc P w base spare held fuel i cs = some x → ∃ el, cs = en el ∧ good el)
    (dece : ∀ fuel cs x, DataW.trod enc P w base spare held fuel e cs = some x → ∃ A n c, cs = [.slice A n c] ∧ Sl enc P w base spare held i A n c) {A : Option Addr} {n c : Nat} (hs : Sl enc P w base spare held e A n c) :
    ∃ l : List (List E), n = l.length ∧ KRow2 (Cx.start w) en m l A := by
  obtain ⟨o, h1, h2, h3⟩ := row_of0 (E := List E × Option Addr × Nat) (en := encS) (good := fun x => KRow (Cx.start w) en m x.1 x.2.1) he encS_ok (fun fuel cs x hx => by
    obtain ⟨A', n', c', rfl, hs'⟩ := dece fuel cs x hx
    obtain ⟨l, rfl, _, hk⟩ := row_of0 hm ok dec hs'
    exact ⟨(l, A', c'), rfl, hk⟩) hs
  exact ⟨o.map (·.1), by rw [List.length_map]; exact h1, o, rfl, h3, h2⟩
end
end Go.Saw

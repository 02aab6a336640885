/- Plain laws about lists of defects: clipping twice, turning and clipping. -/
import Derived.Test.YtfjbhmpnmpphoaaS5
namespace Go.Proofs.Ytfjbhmpnmpphoaa.Pure
open Go.Saw
set_option linter.unusedVariables false
/-- One axis: what is inside of the box. -/
theorem ax_in {a b c d : Int} (h : mx a c < mn b d) : c ≤ mx a c ∧ mx a c < mn b d ∧ mn b d ≤ d ∧ a ≤ mx a c ∧ mn b d ≤ b := by
  revert h; unfold mx mn
  intro h
  repeat' split
  all_goals (repeat' split at h) <;> omega
/-- One axis: a part of the box. -/
theorem ax_part {a b c d p q : Int} (h : 0 ≤ p) (h' : q ≤ d - c) :
    ((mx a c < mn b d ∧ mx (mx a c - c) p < mn (mn b d - c) q) ↔ (mx a c < mn b d ∧ mx a (p + c) < mn b (q + c))) ∧ mx (mx a c - c) p - p = mx a (p + c) - (p + c) ∧ mn (mn b d - c) q - p = mn b (q + c) - (p + c) := by
  unfold mx mn
  refine ⟨?_, ?_, ?_⟩ <;> (repeat' split) <;> omega
theorem ax_more {a b c d p q : Int} (h : 0 ≤ p) (h' : q ≤ d - c) (hh : mx a (p + c) < mn b (q + c)) : mx a c < mn b d := by
  revert hh; unfold mx mn
  intro hh
  repeat' split
  all_goals (repeat' split at hh) <;> omega
/-- A box in range, not empty, not too wide. -/
structure Fit (b1 b2 b3 b4 b5 b6 : Int) : Prop where
  x : -600 ≤ b1 ∧ b1 < b2 ∧ b2 ≤ 600 ∧ b2 - b1 ≤ 600
  y : -600 ≤ b3 ∧ b3 < b4 ∧ b4 ≤ 600 ∧ b4 - b3 ≤ 600
  z : 0 ≤ b5 ∧ b5 < b6 ∧ b6 ≤ 20000
theorem fits_eq (b1 b2 b3 b4 b5 b6 : Int) : ∃ t, sawmilllaw13_fits.f b1 b2 b3 b4 b5 b6 = some t ∧ (t = true → Fit b1 b2 b3 b4 b5 b6) := by
  have he : sawmillref13_Empty.f b1 b2 b3 b4 b5 b6 = some (decide (b2 ≤ b1 ∨ b4 ≤ b3 ∨ b6 ≤ b5)) := by
    unfold sawmillref13_Empty.f
    repeat' split
    all_goals first | (congr 1; symm; rw [decide_eq_true_eq]; omega) | (congr 1; rw [decide_eq_decide]; omega)
  have hr : sawmillref13_Ranged.f b1 b2 b3 b4 b5 b6 = some (decide (-600 ≤ b1 ∧ b2 ≤ 600 ∧ -600 ≤ b3 ∧ b4 ≤ 600 ∧ 0 ≤ b5 ∧ b6 ≤ 20000)) := by
    have hin : ∀ a b c d, sawmillref13_in.f a b c d = some (decide (c ≤ a ∧ b ≤ d)) := by
      intro a b c d
      unfold sawmillref13_in.f
      split
      · congr 1; rw [decide_eq_decide]; omega
      · congr 1; symm; rw [decide_eq_false_iff_not]; omega
    unfold sawmillref13_Ranged.f
    simp only [hin, Option.bind_some, decide_eq_true_eq]
    repeat' split
    all_goals first | (congr 1; rw [decide_eq_decide]; omega) | (congr 1; symm; rw [decide_eq_false_iff_not]; omega)
  unfold sawmilllaw13_fits.f
  simp only [he, hr, Option.bind_some, decide_eq_true_eq]
  split
  · split
    · exact ⟨false, rfl, by simp⟩
    · rw [w_in (n := b2 - b1) (by omega) (by omega), w_in (n := b4 - b3) (by omega) (by omega)]
      split
      · refine ⟨_, rfl, fun h => ?_⟩
        rw [decide_eq_true_eq] at h
        constructor <;> omega
      · exact ⟨false, rfl, by simp⟩
  · exact ⟨false, rfl, by simp⟩
theorem bd_in {a b : Int} (h : -1000000 ≤ a ∧ a ≤ 1000000 ∧ -1000000 ≤ b ∧ b ≤ 1000000) : bd a b = true := by
  unfold bd; rw [decide_eq_true_eq]; omega
/-- Without a turn of the words. -/
theorem cut_in {b1 b2 b3 b4 b5 b6 : Int} (hb : -1000000 ≤ b1 ∧ b1 ≤ 1000000 ∧ -1000000 ≤ b3 ∧ b3 ≤ 1000000 ∧ -1000000 ≤ b5 ∧ b5 ≤ 1000000) {e : E41} (he : Fine e) : cutE b1 b2 b3 b4 b5 b6 e =
    if mx e.2.1 b1 < mn e.2.2.1 b2 ∧ mx e.2.2.2.1 b3 < mn e.2.2.2.2.1 b4 ∧ mx e.2.2.2.2.2.1 b5 < mn e.2.2.2.2.2.2 b6 then
      some (e.1, mx e.2.1 b1 - b1, mn e.2.2.1 b2 - b1, mx e.2.2.2.1 b3 - b3, mn e.2.2.2.2.1 b4 - b3, mx e.2.2.2.2.2.1 b5 - b5, mn e.2.2.2.2.2.2 b6 - b5)
    else none := by
  obtain ⟨_, h2, h3, h4⟩ := he
  unfold cutE
  split
  · rename_i h
    obtain ⟨g1, g2, g3⟩ := h
    have g1 := ax_in g1
    have g2 := ax_in g2
    have g3 := ax_in g3
    rw [w_in, w_in, w_in, w_in, w_in, w_in] <;> omega
  · rfl
theorem cut_fine {b1 b2 b3 b4 b5 b6 : Int} (hb : Fit b1 b2 b3 b4 b5 b6) {e e' : E41} (he : Fine e) (h : cutE b1 b2 b3 b4 b5 b6 e = some e') :
    Fine e' ∧ 0 ≤ e'.2.1 ∧ e'.2.2.1 ≤ b2 - b1 ∧ 0 ≤ e'.2.2.2.1 ∧ e'.2.2.2.2.1 ≤ b4 - b3 ∧ 0 ≤ e'.2.2.2.2.2.1 ∧ e'.2.2.2.2.2.2 ≤ b6 - b5 := by
  obtain ⟨f2, f3, f4⟩ := hb
  rw [cut_in (by omega) he] at h
  obtain ⟨h1, h2, h3, h4⟩ := he
  split at h
  · rename_i hc
    obtain ⟨g1, g2, g3⟩ := hc
    have g1 := ax_in g1
    have g2 := ax_in g2
    have g3 := ax_in g3
    cases h
    refine ⟨⟨h1, ?_, ?_, ?_⟩, ?_⟩ <;> simp only [] <;> omega
  · cases h
theorem clip_fine {l : List E41} {b1 b2 b3 b4 b5 b6 : Int} (hc : chk l = 0) (hb : Fit b1 b2 b3 b4 b5 b6) : chk (clip l b1 b2 b3 b4 b5 b6) = 0 ∧ clip l b1 b2 b3 b4 b5 b6 = l.filterMap (cutE b1 b2 b3 b4 b5 b6) := by
  obtain ⟨hl, hf⟩ := fine_of hc
  have e : clip l b1 b2 b3 b4 b5 b6 = l.filterMap (cutE b1 b2 b3 b4 b5 b6) := by
    obtain ⟨f2, f3, f4⟩ := hb
    unfold clip
    rw [if_pos ⟨hc, bd_in (by omega), bd_in (by omega), bd_in (by omega)⟩]
  refine ⟨?_, e⟩
  rw [e]
  refine of_fine (Nat.le_trans (List.length_filterMap_le _ _) hl) fun x hx => ?_
  obtain ⟨y, hy, hxy⟩ := List.mem_filterMap.1 hx
  exact (cut_fine hb (hf y hy) hxy).1
theorem clip_do {l : List E41} {b1 b2 b3 b4 b5 b6 : Int} (hc : chk l = 0) (h1 : bd b1 b2 = true) (h2 : bd b3 b4 = true) (h3 : bd b5 b6 = true) : clip l b1 b2 b3 b4 b5 b6 = l.filterMap (cutE b1 b2 b3 b4 b5 b6) := by
  unfold clip; rw [if_pos ⟨hc, h1, h2, h3⟩]
/-- A cut by a part of the box, behind a cut by the box. -/
theorem cut_twice {b1 b2 b3 b4 b5 b6 p1 p2 p3 p4 p5 p6 : Int} (hb : Fit b1 b2 b3 b4 b5 b6) (h1 : 0 ≤ p1 ∧ p1 < p2 ∧ p2 ≤ b2 - b1) (h2 : 0 ≤ p3 ∧ p3 < p4 ∧ p4 ≤ b4 - b3) (h3 : 0 ≤ p5 ∧ p5 < p6 ∧ p6 ≤ b6 - b5) {e : E41} (he : Fine e) :
    (cutE b1 b2 b3 b4 b5 b6 e).bind (cutE p1 p2 p3 p4 p5 p6) = cutE (p1 + b1) (p2 + b1) (p3 + b3) (p4 + b3) (p5 + b5) (p6 + b5) e := by
  obtain ⟨f2, f3, f4⟩ := hb
  have hb : Fit b1 b2 b3 b4 b5 b6 := ⟨f2, f3, f4⟩
  have x1 := ax_part (a := e.2.1) (b := e.2.2.1) (c := b1) (d := b2) h1.1 h1.2.2
  have x2 := ax_part (a := e.2.2.2.1) (b := e.2.2.2.2.1) (c := b3) (d := b4) h2.1 h2.2.2
  have x3 := ax_part (a := e.2.2.2.2.2.1) (b := e.2.2.2.2.2.2) (c := b5) (d := b6) h3.1 h3.2.2
  have y1 := ax_more (a := e.2.1) (b := e.2.2.1) (c := b1) (d := b2) h1.1 h1.2.2
  have y2 := ax_more (a := e.2.2.2.1) (b := e.2.2.2.2.1) (c := b3) (d := b4) h2.1 h2.2.2
  have y3 := ax_more (a := e.2.2.2.2.2.1) (b := e.2.2.2.2.2.2) (c := b5) (d := b6) h3.1 h3.2.2
  rw [cut_in (b1 := p1 + b1) (by omega) he]
  cases hh : cutE b1 b2 b3 b4 b5 b6 e with
  | none =>
    rw [cut_in (by omega) he] at hh
    split at hh
    · cases hh
    · rename_i hn
      rw [if_neg]
      · rfl
      · rintro ⟨g1, g2, g3⟩
        exact hn ⟨y1 g1, y2 g2, y3 g3⟩
  | some e' =>
    have hf := (cut_fine hb he hh).1
    rw [Option.bind_some, cut_in (by omega) hf]
    rw [cut_in (by omega) he] at hh
    split at hh
    · rename_i hn
      obtain ⟨g1, g2, g3⟩ := hn
      cases hh
      simp only []
      have c1 : mx (mx e.2.1 b1 - b1) p1 < mn (mn e.2.2.1 b2 - b1) p2 ↔ mx e.2.1 (p1 + b1) < mn e.2.2.1 (p2 + b1) := ⟨fun h => (x1.1.1 ⟨g1, h⟩).2, fun h => (x1.1.2 ⟨g1, h⟩).2⟩
      have c2 : mx (mx e.2.2.2.1 b3 - b3) p3 < mn (mn e.2.2.2.2.1 b4 - b3) p4 ↔ mx e.2.2.2.1 (p3 + b3) < mn e.2.2.2.2.1 (p4 + b3) := ⟨fun h => (x2.1.1 ⟨g2, h⟩).2, fun h => (x2.1.2 ⟨g2, h⟩).2⟩
      have c3 : mx (mx e.2.2.2.2.2.1 b5 - b5) p5 < mn (mn e.2.2.2.2.2.2 b6 - b5) p6 ↔ mx e.2.2.2.2.2.1 (p5 + b5) < mn e.2.2.2.2.2.2 (p6 + b5) := ⟨fun h => (x3.1.1 ⟨g3, h⟩).2, fun h => (x3.1.2 ⟨g3, h⟩).2⟩
      simp only [c1, c2, c3, x1.2.1, x1.2.2, x2.2.1, x2.2.2, x3.2.1, x3.2.2]
    · cases hh
/-- A cut by the whole of the box is no cut. -/
theorem cut_whole {w h d : Int} {e : E41} (he : Fine e) (h1 : 0 ≤ e.2.1 ∧ e.2.2.1 ≤ w) (h2 : 0 ≤ e.2.2.2.1 ∧ e.2.2.2.2.1 ≤ h) (h3 : 0 ≤ e.2.2.2.2.2.1 ∧ e.2.2.2.2.2.2 ≤ d) : cutE 0 w 0 h 0 d e = some e := by
  rw [cut_in (by omega) he]
  obtain ⟨_, g2, g3, g4⟩ := he
  have m1 : ∀ {a b c : Int}, 0 ≤ a → a < b → b ≤ c → mx a 0 = a ∧ mn b c = b := by
    intro a b c i1 i2 i3
    unfold mx mn
    refine ⟨?_, ?_⟩ <;> split <;> omega
  obtain ⟨e1, e2⟩ := m1 h1.1 g2.2.1 h1.2
  obtain ⟨e3, e4⟩ := m1 h2.1 g3.2.1 h2.2
  obtain ⟨e5, e6⟩ := m1 h3.1 g4.2.1 h3.2
  rw [e1, e2, e3, e4, e5, e6, if_pos ⟨by omega, by omega, by omega⟩]
  simp
theorem fm_congr {f g : E41 → Option E41} : ∀ {l : List E41}, (∀ x ∈ l, f x = g x) → l.filterMap f = l.filterMap g
  | [], _ => rfl
  | x :: r, h => by
    rw [List.filterMap_cons, List.filterMap_cons, h x List.mem_cons_self, fm_congr (l := r) fun y hy => h y (List.mem_cons_of_mem _ hy)]
theorem fm_id {f : E41 → Option E41} : ∀ {l : List E41}, (∀ x ∈ l, f x = some x) → l.filterMap f = l
  | [], _ => rfl
  | x :: r, h => by
    rw [List.filterMap_cons, h x List.mem_cons_self, fm_id (l := r) fun y hy => h y (List.mem_cons_of_mem _ hy)]
end Go.Proofs.Ytfjbhmpnmpphoaa.Pure

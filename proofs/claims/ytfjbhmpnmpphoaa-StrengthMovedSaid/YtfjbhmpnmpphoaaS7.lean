/- Plain laws about lists of defects: turning keeps what counts. -/
import Derived.Test.YtfjbhmpnmpphoaaS6
namespace Go.Proofs.Ytfjbhmpnmpphoaa.Pure
open Go.Saw
set_option linter.unusedVariables false
theorem quarter_in {e : E41} (h : Fine e) : quarter e = (e.1, -e.2.2.2.2.1, -e.2.2.2.1, e.2.1, e.2.2.1, e.2.2.2.2.2.1, e.2.2.2.2.2.2) := by
  obtain ⟨_, h2, h3, _⟩ := h
  unfold quarter
  rw [w_in (by omega) (by omega), w_in (by omega) (by omega), Int.zero_sub, Int.zero_sub]
theorem quarter_fine {e : E41} (h : Fine e) : Fine (quarter e) ∧ size (quarter e) = size e := by
  have hq := quarter_in h
  have hs := (size_in h).1
  obtain ⟨h1, h2, h3, h4⟩ := h
  have hf : Fine (quarter e) := by rw [hq]; constructor <;> simp only [] <;> omega
  refine ⟨hf, ?_⟩
  rw [(size_in hf).1, hs, hq]
  simp only []
  unfold mx
  split <;> split <;> omega
theorem turnN_fine : ∀ (n : Nat) {e : E41}, Fine e → Fine (turnN n e) ∧ size (turnN n e) = size e
  | 0, e, h => ⟨h, rfl⟩
  | n + 1, e, h => by
    obtain ⟨h1, h2⟩ := quarter_fine h
    obtain ⟨h3, h4⟩ := turnN_fine n h1
    exact ⟨h3, h4.trans h2⟩
theorem turnN_add : ∀ (m n : Nat) (e : E41), turnN (m + n) e = turnN n (turnN m e)
  | 0, n, e => by rw [Nat.zero_add]; rfl
  | m + 1, n, e => by
    rw [show m + 1 + n = (m + n) + 1 by omega]
    exact turnN_add m n (quarter e)
theorem turnN_four {e : E41} (h : Fine e) : turnN 4 e = e := by
  obtain ⟨k, xa, xb, ya, yb, za, zb⟩ := e
  have h1 := (quarter_fine h).1
  have h2 := (quarter_fine h1).1
  have h3 := (quarter_fine h2).1
  show quarter (quarter (quarter (quarter _))) = _
  rw [quarter_in h3, quarter_in h2, quarter_in h1, quarter_in h]
  simp
theorem turn_do {l : List E41} (hc : chk l = 0) (q : Int) : turn l q = l.map (turnN (q % 4).toNat) := by
  unfold turn; rw [if_pos hc]
theorem turn_fine {l : List E41} (hc : chk l = 0) (q : Int) : chk (turn l q) = 0 := by
  obtain ⟨hl, hf⟩ := fine_of hc
  rw [turn_do hc]
  refine of_fine (by simpa using hl) fun x hx => ?_
  obtain ⟨y, hy, rfl⟩ := List.mem_map.1 hx
  exact (turnN_fine _ (hf y hy)).1
theorem turn_back {l : List E41} (hc : chk l = 0) (q p : Int) (h : (q + p) % 4 = 0) : turn (turn l q) p = l := by
  obtain ⟨hl, hf⟩ := fine_of hc
  rw [turn_do (turn_fine hc q), turn_do hc, List.map_map]
  have : ∀ x ∈ l, (turnN (p % 4).toNat ∘ turnN (q % 4).toNat) x = x := by
    intro x hx
    show turnN _ (turnN _ x) = x
    rw [← turnN_add]
    have h4 : (q % 4).toNat + (p % 4).toNat = 0 ∨ (q % 4).toNat + (p % 4).toNat = 4 := by omega
    rcases h4 with h4 | h4
    · rw [h4]; rfl
    · rw [h4]; exact turnN_four (hf x hx)
  calc l.map _ = l.map id := List.map_congr_left this
    _ = l := List.map_id l
theorem filter_map_keep {l : List E41} {g : E41 → E41} {p : E41 → Bool} (h : ∀ e ∈ l, p (g e) = p e) : (l.map g).filter p = (l.filter p).map g := by
  rw [List.filter_map]
  congr 1
  exact List.filter_congr h
theorem mxs_map {f f' : E41 → Int} {g : E41 → E41} : ∀ {l : List E41} (n : Int), (∀ e ∈ l, f (g e) = f' e) → (l.map g).foldl (fun n e => mx n (f e)) n = l.foldl (fun n e => mx n (f' e)) n
  | [], _, _ => rfl
  | x :: r, n, h => by
    rw [List.map_cons, List.foldl_cons, List.foldl_cons, h x List.mem_cons_self]
    exact mxs_map _ fun e he => h e (List.mem_cons_of_mem _ he)
theorem tot_map {q : E41 → Bool} {g : E41 → E41} : ∀ {l : List E41}, (∀ e ∈ l, q (g e) = q e ∧ size (g e) = size e) → tot q (l.map g) = tot q l
  | [], _ => rfl
  | x :: r, h => by
    rw [List.map_cons, tot_cons, tot_cons, tot_map fun e he => h e (List.mem_cons_of_mem _ he)]
    obtain ⟨h1, h2⟩ := h x List.mem_cons_self
    rw [h1, h2]
theorem kind_turn (k : Int) (n : Nat) (e : E41) : ofKind k (turnN n e) = ofKind k e := by
  unfold ofKind; rw [(turnN_keep n e).1]
theorem knot_turn (n : Nat) (e : E41) : isKnot (turnN n e) = isKnot e := by
  unfold isKnot; rw [(turnN_keep n e).1]
theorem hits_turn (a b : Int) (n : Nat) (e : E41) : hits a b (turnN n e) = hits a b e := by
  unfold hits; rw [(turnN_keep n e).2.1, (turnN_keep n e).2.2]
theorem count_turn {l : List E41} (hc : chk l = 0) (q k : Int) : ((turn l q).filter (ofKind k)).length = (l.filter (ofKind k)).length := by
  rw [turn_do hc, filter_map_keep fun e _ => kind_turn k _ e, List.length_map]
theorem largest_turn {l : List E41} (hc : chk l = 0) (q k : Int) : mxs size ((turn l q).filter (ofKind k)) = mxs size (l.filter (ofKind k)) := by
  obtain ⟨_, hf⟩ := fine_of hc
  rw [turn_do hc, filter_map_keep fun e _ => kind_turn k _ e]
  exact mxs_map 0 fun e he => (turnN_fine _ (hf e (List.mem_filter.1 he).1)).2
theorem worst_turn {l : List E41} (hc : chk l = 0) (q w : Int) : wst (turn l q) w = wst l w := by
  obtain ⟨_, hf⟩ := fine_of hc
  have hc' := turn_fine hc q
  unfold wst
  simp only [hc, hc', true_and]
  split
  · rw [turn_do hc, filter_map_keep fun e _ => knot_turn _ e]
    refine mxs_map 0 fun e he => ?_
    unfold win
    rw [(turnN_keep _ e).2.1]
    exact tot_map fun x hx => ⟨hits_turn _ _ _ x, (turnN_fine _ (hf x (List.mem_filter.1 hx).1)).2⟩
  · rfl
/-- A defect of a board, turned by a quarter. -/
def side (h : Int) (e : E41) : E41 := (e.1, IntKind.i64.wrap (h - e.2.2.2.2.1), IntKind.i64.wrap (h - e.2.2.2.1), e.2.1, e.2.2.1, e.2.2.2.2.2.1, e.2.2.2.2.2.2)
theorem mx_neg (a b : Int) : mx (-a) (-b) = -(mn a b) ∧ mn (-a) (-b) = -(mx a b) := by
  unfold mx mn
  refine ⟨?_, ?_⟩ <;> split <;> split <;> omega
theorem cut_turn {b1 b2 b3 b4 b5 b6 : Int} (hb : Fit b1 b2 b3 b4 b5 b6) {e : E41} (he : Fine e) : cutE (-b4) (-b3) b1 b2 b5 b6 (quarter e) = (cutE b1 b2 b3 b4 b5 b6 e).map (side (b4 - b3)) := by
  obtain ⟨f2, f3, f4⟩ := hb
  have hq := quarter_in he
  rw [cut_in (by omega) (quarter_fine he).1, cut_in (by omega) he, hq]
  simp only [mx_neg]
  by_cases h : mx e.2.1 b1 < mn e.2.2.1 b2 ∧ mx e.2.2.2.1 b3 < mn e.2.2.2.2.1 b4 ∧ mx e.2.2.2.2.2.1 b5 < mn e.2.2.2.2.2.2 b6
  · have h' := h
    obtain ⟨g1, g2, g3⟩ := h'
    have k2 := ax_in g2
    rw [if_pos ⟨by omega, g1, g3⟩, if_pos h]
    unfold side
    simp only [Option.map_some]
    rw [w_in (by omega) (by omega), w_in (by omega) (by omega)]
    congr 2
    congr 1
    · omega
    · congr 1; omega
  · rw [if_neg h, if_neg (fun hh => h ⟨hh.2.1, by omega, hh.2.2⟩)]
    rfl
theorem fm_map {f : E41 → Option E41} {g : E41 → E41} : ∀ {l : List E41}, (l.map g).filterMap f = l.filterMap (fun e => f (g e))
  | [] => rfl
  | x :: r => by
    rw [List.map_cons, List.filterMap_cons, List.filterMap_cons, fm_map (l := r)]
theorem clip_turn {l : List E41} {b1 b2 b3 b4 b5 b6 : Int} (hc : chk l = 0) (hb : Fit b1 b2 b3 b4 b5 b6) : clip (turn l 1) (-b4) (-b3) b1 b2 b5 b6 = (clip l b1 b2 b3 b4 b5 b6).map (side (b4 - b3)) := by
  obtain ⟨_, hf⟩ := fine_of hc
  have hb' := hb
  obtain ⟨f2, f3, f4⟩ := hb'
  rw [clip_do (turn_fine hc 1) (bd_in (by omega)) (bd_in (by omega)) (bd_in (by omega)), (clip_fine hc hb).2, turn_do hc, fm_map, List.map_filterMap]
  exact fm_congr fun e he => cut_turn hb (hf e he)
end Go.Proofs.Ytfjbhmpnmpphoaa.Pure

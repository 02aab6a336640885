/- Plain laws about assignments: words, loops, the examples. -/
import Derived.Test.YtbogdbbmmlaohaaF2
import Derived.Test.YtbogdbbmmlaohaaR
import Derived.OpenShut
namespace Go.Proofs.Ytbogdbbmmlaohaa.Pure
open Go.Saw
set_option linter.unusedVariables false
theorem w_eq (n : Int) : IntKind.i64.wrap n = (n + 9223372036854775808) % 18446744073709551616 - 9223372036854775808 := by
  simp [IntKind.wrap, IntKind.bits, IntKind.signed]
  split <;> omega
theorem w_in {n : Int} (h : -9223372036854775808 ≤ n) (h' : n ≤ 9223372036854775807) : IntKind.i64.wrap n = n := by rw [w_eq]; omega
theorem awake48 : sawmilllaw48_awake.f 110 = some true := by kernel_rfl
theorem ordersAwake : sawmilltop_ordersAwake.f 110 = some true := by kernel_rfl
theorem idx_at {E : Type} {l : List E} {i : Nat} {x : E} (h : l[i]? = some x) : idx l (i : Int) = some x := by
  unfold idx; rw [if_neg (by omega)]; simpa using h
theorem at_lt {E : Type} {l : List E} {i : Nat} {x : E} (h : l[i]? = some x) : i < l.length := (List.getElem?_eq_some_iff.1 h).1
theorem take_at {E : Type} {l : List E} {i : Nat} {x : E} (h : l[i]? = some x) : l.take (i + 1) = l.take i ++ [x] := by
  obtain ⟨h1, h2⟩ := List.getElem?_eq_some_iff.1 h
  rw [List.take_succ_eq_append_getElem h1, h2]
/-- A loop that counts up to a number. -/
theorem runN {β σ : Type} (n : Nat) (F : Nat → σ → Int → Option β) (st : Nat → σ) (fin : Option β) (hb : n < 4611686018427387904)
    (hs : ∀ i j, i < n → F (j + 1) (st i) i = F j (st (i + 1)) (IntKind.i64.wrap ((i : Int) + 1)))
    (he : ∀ j, F (j + 1) (st n) n = fin) : ∀ (d i j : Nat), i + d = n → d < j → F j (st i) i = fin
  | 0, i, j, hd, hj => by
    obtain ⟨j, rfl⟩ : ∃ k, j = k + 1 := ⟨j - 1, by omega⟩
    obtain rfl : i = n := by omega
    exact he j
  | d + 1, i, j, hd, hj => by
    obtain ⟨j, rfl⟩ : ∃ k, j = k + 1 := ⟨j - 1, by omega⟩
    rw [hs i j (by omega), w_in (by omega) (by omega)]
    exact runN n F st fin hb hs he d (i + 1) j (by omega) (by omega)
theorem run {β σ E : Type} (l : List E) (F : Nat → σ → Int → Option β) (st : Nat → σ) (fin : Option β) (hb : l.length < 4611686018427387904)
    (hs : ∀ i x j, l[i]? = some x → F (j + 1) (st i) i = F j (st (i + 1)) (IntKind.i64.wrap ((i : Int) + 1)))
    (he : ∀ j, F (j + 1) (st l.length) l.length = fin) (j : Nat) (hj : l.length < j) : F j (st 0) 0 = fin :=
  runN l.length F st fin hb (fun i j hi => hs i l[i] j (List.getElem?_eq_getElem hi)) he l.length 0 j (by omega) hj
end Go.Proofs.Ytbogdbbmmlaohaa.Pure

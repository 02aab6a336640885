/- The library's Clone at lists of numbers; a call of 'fill' as its callers see it. -/
import Derived.Test.YtbogdbbmmlaohaaF1
namespace Go.Proofs.Ytbogdbbmmlaohaa
open Go.Saw Go.RowKit
set_option linter.unusedVariables false
set_option linter.unusedSimpArgs false
/-! ### Clone: function 32 -/
set_option maxRecDepth 100000 in
theorem clone_calls (l : List E3) (A : Option Addr) (cp : Nat) (w : World) (k : KRow (Cx.start w) enc3 1 l A) (hb : l.length * 8 ≤ 140737488355328) :
    Calls Try.prog 32 #[.slice A l.length cp] w (fun e w' => ∃ A' cp' ba, e = .returned (.slice A' l.length cp') ∧ Own enc3 1 3 l A' cp' ba ∧ Inv (Cx.start w) ba w') := by
  refine Go.Saw.calls (args := [.slice A l.length cp]) Try.func32 rfl Try.ntmps32 (by kernel_rfl) ?_
  refine J.seq ?_
  refine J.plain ?_
  refine LL.op (.slice none 0 0) (by kernel_rfl) (fun w _ => by kernel_rfl) ?_
  refine LL.done (s' := [(0, .slice A l.length cp), (2, .slice none 0 0)]) [0, 2] (by kernel_rfl) ?_
  refine NN.then ?_
  refine J.seq ?_
  refine J.seq ?_
  refine J.plain ?_
  refine LL.op (.slice A l.length cp) (by kernel_rfl) (fun w _ => by kernel_rfl) ?_
  cases A with
  | none =>
    have hl : l = [] := by
      cases l with
      | nil => rfl
      | cons x l => obtain ⟨_, b, q, h, _⟩ := k 0 x rfl; cases h
    subst hl
    refine LL.op (.bool true) (by kernel_rfl) (fun w _ => by kernel_rfl) ?_
    refine LL.done (s' := [(0, .slice none 0 cp), (2, .slice none 0 0), (4, .bool true)]) [0, 2, 4] (by kernel_rfl) ?_
    refine NN.then ?_
    refine J.condT (b := true) rfl (by kernel_rfl) (by kernel_rfl) ?_
    refine J.seq ?_
    refine J.plain ?_
    refine LL.op (.slice none 0 0) (by kernel_rfl) (fun w _ => by kernel_rfl) ?_
    refine LL.done (s' := [(2, .slice none 0 0)]) [2] (by kernel_rfl) ?_
    refine NN.then ?_
    refine J.ret ?_
    refine NN.then_ret ?_
    exact NN.fin1 2 (.slice none 0 0) (by kernel_rfl) (by kernel_rfl) (.inl rfl) (fun w hi => ⟨none, 0, [], rfl, .nil _ rfl, hi⟩)
  | some a =>
    refine LL.op (.bool false) (by kernel_rfl) (fun w _ => by kernel_rfl) ?_
    refine LL.done (s' := [(0, .slice (some a) l.length cp), (2, .slice none 0 0), (4, .bool false)]) [0, 2, 4] (by kernel_rfl) ?_
    refine NN.then ?_
    refine J.condF (b := false) rfl (by kernel_rfl) (by kernel_rfl) ?_
    refine J.skip ?_
    refine NN.then ?_
    refine J.seq ?_
    refine J.plain ?_
    refine LL.lit0 24 3 1 enc3 (by kernel_rfl) rfl (by kernel_rfl) (fun A0 o0 => ?_)
    refine LL.op (.slice (some a) l.length cp) (by kernel_rfl) (fun w _ => by kernel_rfl) ?_
    refine LL.app (l2 := l) (r := l) (cap := 0) (c2 := cp) [] (.tmp 5) (.tmp 6) el24 ok3 o0 k (by unfold app; rw [if_pos (by simpa using hb)]; rfl) (by kernel_rfl) rfl (by kernel_rfl) (by kernel_rfl) (fun A1 c1 ba1 o1 => ?_)
    refine LL.op (.slice A1 l.length c1) (by kernel_rfl) (fun w _ => by kernel_rfl) ?_
    refine LL.done (s' := [(2, .slice A1 l.length c1)]) [2] (by kernel_rfl) ?_
    refine NN.then ?_
    refine J.ret ?_
    exact NN.fin1 2 (.slice A1 l.length c1) (by kernel_rfl) (by kernel_rfl) (.inl rfl) (fun w hi => ⟨A1, c1, ba1, rfl, o1, hi⟩)
section
variable {ops : Array Oper} {c : Cx} {N : Nat} {s : S} {bs : Bs} {o : Oper} {rest : List Oper} {Q : Exit → Act → World → Prop}
theorem LL.clone {l r : List E3} {A : Option Addr} {cp : Nat} (hfit : fit ops N s o = true) (hr : ∀ w, (execOp (ev s) o).run Try.prog w = .ok (.enter 32 #[.slice A l.length cp]) w) (k : KRow c enc3 1 l A) (ha : app 8 ([] : List E3) l = some r)
    (h : ∀ A' c' ba, Own enc3 1 3 r A' c' ba → LL Try.prog ops c N (put o.dst (.slice A' r.length c') s) (bs ++ ba) Q rest) : LL Try.prog ops c N s bs Q (o :: rest) := by
  obtain ⟨e, hb⟩ := app_spec ha
  obtain rfl : r = l := by simpa using e
  exact LL.enter 32 _ hfit hr fun w hw => (clone_calls r A cp w (k.at hw) (by simpa using hb)).mono fun e w' ⟨A', c', ba, he, ow, hi⟩ => ⟨_, he, fun a hf => h A' c' ba ow a w' hf (hw.join hi)⟩
theorem LL.callFill {fits : List (List E4)} {r1 : List E3} {rT : Int → Option Int} {A : Option Addr} {cp : Nat} (f : Nat) (vs : Array Value) (hfit : fit ops N s o = true) (hr : ∀ w, (execOp (ev s) o).run Try.prog w = .ok (.enter f vs) w)
    (hv : ∀ w, Inv c bs w → Calls Try.prog f vs w (Filled w fits A cp r1 rT))
    (h : ∀ R F (m t gc n : Nat), Le c ⟨c.W, R, F⟩ → BlkAt ⟨c.W, R, F⟩ m (cl [.slice A fits.length cp, .map (some t)] 73) → r1.length = n → LL Try.prog ops ⟨c.W, R, F⟩ N (put o.dst (.tuple #[.pointer (some ⟨m, 0, none⟩), .slice (some ⟨gc, 0, none⟩) n n]) s) ([(gc, cl (List.map eI r1) 3), (t, mpO eI rT)] ++ bs) Q rest) : LL Try.prog ops c N s bs Q (o :: rest) :=
  LL.enter f vs hfit hr fun w hw => (hv w hw).mono fun e w' ⟨m, t, gc, n, R, F, he, hl, le, hb, hm, hi⟩ => ⟨_, he, fun a hf => by
    have hj := (hw.join (hi.back le)).perm (List.perm_append_comm (l₁ := bs))
    obtain ⟨hF, ob, h1, h2⟩ := hb
    have hk := hi.keep m hF
    refine h _ _ m t gc n hj.now.2 ⟨⟨hk.1, fun x hx e => ?_⟩, ob, hk.2.trans h1, h2⟩ hl a w' hf hj.now.1
    rcases List.mem_append.1 hx with hx | hx
    · exact (hi.blk x hx).1.2 (by rw [e]; exact hF)
    · have := hw.lt hx
      omega⟩
end
end Go.Proofs.Ytbogdbbmmlaohaa

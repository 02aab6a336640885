/- The lists' elements. Printed by absgen.py. -/
import Derived.Test.YtbogdbbmmlaohaaProg
import Derived.Test.YtbogdbbmmlaohaaOps3
namespace Go.Proofs.Ytbogdbbmmlaohaa
open Go.Saw
open Go.RowKit
abbrev OS := Option Addr × Nat × Nat
abbrev E3 := Int
def enc3 (x : E3) : List Value := [.int .i64 x]
theorem ok3 : EncOk enc3 1 := ⟨fun _ => rfl, fun e => List.all_eq_true.1 (show (enc3 e).all (·.oneCell') = true from rfl), by decide⟩
abbrev E4 := Bool
def enc4 (x : E4) : List Value := [.bool x]
theorem ok4 : EncOk enc4 1 := ⟨fun _ => rfl, fun e => List.all_eq_true.1 (show (enc4 e).all (·.oneCell') = true from rfl), by decide⟩
abbrev E27 := ByteArray × ByteArray × Int × Int × Int × Int × Int × Int × Int × Int × Int
def enc27 (x : E27) : List Value := [.string x.1, .string x.2.1, .int .i64 x.2.2.1, .int .i64 x.2.2.2.1, .int .i64 x.2.2.2.2.1, .int .i64 x.2.2.2.2.2.1, .int .i64 x.2.2.2.2.2.2.1, .int .i64 x.2.2.2.2.2.2.2.1, .int .i64 x.2.2.2.2.2.2.2.2.1, .int .i64 x.2.2.2.2.2.2.2.2.2.1, .int .i64 x.2.2.2.2.2.2.2.2.2.2]
theorem ok27 : EncOk enc27 11 := ⟨fun _ => rfl, fun e => List.all_eq_true.1 (show (enc27 e).all (·.oneCell') = true from rfl), by decide⟩
abbrev E37 := ByteArray × ByteArray × ByteArray × Int × Int × Int × Int × Int × Int × Int × Int × OS × Int × Int × Int × Int × Bool × Int
def enc37 (x : E37) : List Value := [.string x.1, .string x.2.1, .string x.2.2.1, .int .i64 x.2.2.2.1, .int .i64 x.2.2.2.2.1, .int .i64 x.2.2.2.2.2.1, .int .i64 x.2.2.2.2.2.2.1, .int .i64 x.2.2.2.2.2.2.2.1, .int .i64 x.2.2.2.2.2.2.2.2.1, .int .i64 x.2.2.2.2.2.2.2.2.2.1, .int .i64 x.2.2.2.2.2.2.2.2.2.2.1, .slice x.2.2.2.2.2.2.2.2.2.2.2.1.1 x.2.2.2.2.2.2.2.2.2.2.2.1.2.1 x.2.2.2.2.2.2.2.2.2.2.2.1.2.2, .int .i64 x.2.2.2.2.2.2.2.2.2.2.2.2.1, .int .i64 x.2.2.2.2.2.2.2.2.2.2.2.2.2.1, .int .i64 x.2.2.2.2.2.2.2.2.2.2.2.2.2.2.1, .int .i64 x.2.2.2.2.2.2.2.2.2.2.2.2.2.2.2.1, .bool x.2.2.2.2.2.2.2.2.2.2.2.2.2.2.2.2.1, .int .i64 x.2.2.2.2.2.2.2.2.2.2.2.2.2.2.2.2.2]
theorem ok37 : EncOk enc37 18 := ⟨fun _ => rfl, fun e => List.all_eq_true.1 (show (enc37 e).all (·.oneCell') = true from rfl), by decide⟩
theorem el24 : ElemOk Try.prog 24 3 1 8 := ⟨by kernel_rfl, ⟨Try.t3, _, (by kernel_rfl : Try.prog.info? 3 = some Try.t3), rfl, rfl, rfl, rfl⟩, by decide⟩
theorem el48 : ElemOk Try.prog 48 4 1 1 := ⟨by kernel_rfl, ⟨Try.t4, _, (by kernel_rfl : Try.prog.info? 4 = some Try.t4), rfl, rfl, rfl, rfl⟩, by decide⟩
theorem el38 : ElemOk Try.prog 38 48 1 24 := ⟨by kernel_rfl, ⟨Try.t48, _, (by kernel_rfl : Try.prog.info? 48 = some Try.t48), rfl, rfl, rfl, rfl⟩, by decide⟩
theorem one3 : One Try.prog 3 eI := ⟨by kernel_rfl, fun _ => rfl, fun _ => rfl⟩
theorem one4 : One Try.prog 4 eB := ⟨by kernel_rfl, fun _ => rfl, fun _ => rfl⟩
theorem mk3 : MkOk Try.prog 24 3 (eI 0) := ⟨Try.t3, by kernel_rfl, (by kernel_rfl : Try.prog.info? 3 = some Try.t3), rfl, rfl, by decide, rfl⟩
theorem mk4 : MkOk Try.prog 48 4 (eB false) := ⟨Try.t4, by kernel_rfl, (by kernel_rfl : Try.prog.info? 4 = some Try.t4), rfl, rfl, by decide, rfl⟩
theorem mapI : MapTy Try.prog 71 (.int .i64 0) := ⟨3, 3, Try.t3, by kernel_rfl, by kernel_rfl, (by kernel_rfl : Try.prog.info? 3 = some Try.t3), rfl⟩
theorem mapB : MapTy Try.prog 75 (.bool false) := ⟨3, 4, Try.t4, by kernel_rfl, by kernel_rfl, (by kernel_rfl : Try.prog.info? 4 = some Try.t4), rfl⟩
/-- What fill leaves: a market that is kept, its map, and the counts. -/
def Filled (w : World) (a0 : List (List E4)) (A : Option Addr) (cp : Nat) (r1 : List E3) (rT : Int → Option Int) : Ending → World → Prop := fun e w_ => ∃ (m t gc n : Nat) (R : World) (F : Nat → Prop), e = .returned (.tuple #[.pointer (some ⟨m, 0, none⟩), .slice (some ⟨gc, 0, none⟩) n n]) ∧ r1.length = n ∧ Le (Cx.start w) ⟨w, R, F⟩ ∧ BlkAt ⟨w, R, F⟩ m (cl [.slice A a0.length cp, .map (some t)] 73) ∧ w.heap.size ≤ m ∧ Inv ⟨w, R, F⟩ [(gc, cl (List.map eI r1) 3), (t, mpO eI rT)] w_
end Go.Proofs.Ytbogdbbmmlaohaa

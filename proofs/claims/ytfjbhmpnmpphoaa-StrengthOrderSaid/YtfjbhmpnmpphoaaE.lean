/- The lists' elements. Printed by absgen.py. -/
import Derived.Test.YtfjbhmpnmpphoaaProg
import Derived.Test.YtfjbhmpnmpphoaaRows2
namespace Go.Proofs.Ytfjbhmpnmpphoaa
open Go.Saw
abbrev E32 := ByteArray × Int × Int × Int × Int × Int × Int × Int × Int × Int × Int × Int × Int
def enc32 (x : E32) : List Value := [.string x.1, .int .i64 x.2.1, .int .i64 x.2.2.1, .int .i64 x.2.2.2.1, .int .i64 x.2.2.2.2.1, .int .i64 x.2.2.2.2.2.1, .int .i64 x.2.2.2.2.2.2.1, .int .i64 x.2.2.2.2.2.2.2.1, .int .i64 x.2.2.2.2.2.2.2.2.1, .int .i64 x.2.2.2.2.2.2.2.2.2.1, .int .i64 x.2.2.2.2.2.2.2.2.2.2.1, .int .i64 x.2.2.2.2.2.2.2.2.2.2.2.1, .int .i64 x.2.2.2.2.2.2.2.2.2.2.2.2]
theorem ok32 : EncOk enc32 13 := ⟨fun _ => rfl, fun e => List.all_eq_true.1 (show (enc32 e).all (·.oneCell') = true from rfl), by decide⟩
abbrev E41 := Int × Int × Int × Int × Int × Int × Int
def enc41 (x : E41) : List Value := [.int .i64 x.1, .int .i64 x.2.1, .int .i64 x.2.2.1, .int .i64 x.2.2.2.1, .int .i64 x.2.2.2.2.1, .int .i64 x.2.2.2.2.2.1, .int .i64 x.2.2.2.2.2.2]
theorem ok41 : EncOk enc41 7 := ⟨fun _ => rfl, fun e => List.all_eq_true.1 (show (enc41 e).all (·.oneCell') = true from rfl), by decide⟩
theorem el26 : ElemOk Try.prog 26 41 7 56 := ⟨by kernel_rfl, ⟨Try.t41, _, (by kernel_rfl : Try.prog.info? 41 = some Try.t41), rfl, rfl, rfl, rfl⟩, by decide⟩
theorem el67 : ElemOk Try.prog 67 32 13 112 := ⟨by kernel_rfl, ⟨Try.t32, _, (by kernel_rfl : Try.prog.info? 32 = some Try.t32), rfl, rfl, rfl, rfl⟩, by decide⟩
end Go.Proofs.Ytfjbhmpnmpphoaa

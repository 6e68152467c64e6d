/- The reference of layer 06: moved. Printed by gen_ref6g.py. -/
import Derived.Test.YtofgmijmhpmabaaGreatDoorDRef6G1
import Derived.Test.YtofgmijmhpmabaaGreatDoorDRef6G2
namespace Go.Proofs.YtofgmijmhpmabaaGreatDoor.D
open Go Go.RowKit
set_option linter.unusedVariables false
set_option linter.unusedSimpArgs false
theorem refMoved_any (x : SV) (s : St) (card src srcAt dst dstAt : Int) (w : World) (h : RdSt w x s) (hz : Sz s) (hm : May s) : Calls Tryz.prog 119 #[x.val s, .int .i64 card, .int .i64 src, .int .i64 srcAt, .int .i64 dst, .int .i64 dstAt] w (RPost (moveS s card src srcAt dst dstAt) w) := by
 cases hd : (src == dst) with
 | false => exact refMoved_ne x s card src srcAt dst dstAt w h hz hm hd
 | true => exact refMoved_eq x s card src srcAt dst dstAt w h hz hm hd
end Go.Proofs.YtofgmijmhpmabaaGreatDoor.D

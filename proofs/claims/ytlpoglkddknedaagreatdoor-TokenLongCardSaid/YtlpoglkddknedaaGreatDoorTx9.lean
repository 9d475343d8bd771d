/- Written by a program of this session (a turned copy of the kit's print), with the contracts that were proved by hand in their places. -/
import Derived.Test.YtlpoglkddknedaaGreatDoorTx0
import Derived.Test.YtlpoglkddknedaaGreatDoorHd
namespace Go.Proofs.YtlpoglkddknedaaGreatDoor.T
open Go.RowKit Go.Proofs.YtlpoglkddknedaaGreatDoorW.PrintWords Go.Proofs.YtlpoglkddknedaaGreatDoorW.PrintLast Go.Proofs.YtlpoglkddknedaaGreatDoorW.PrintMore
attribute [local go_sem] max2_int min2_int max_two min_two max_three min_three max_four min_four   -- for this text's walks alone
set_option linter.unusedVariables false
set_option linter.unusedSimpArgs false


/-! ### token_Scan: function 8: given by hand -/
def token_Scan.f (a0 : ByteArray) : Option ((List (S31)) × Int × Int) := H.scanF a0
theorem token_Scan.calls (a0 : ByteArray) (r1 : List (S31)) (r2 r3 : Int) (w : World) (h : token_Scan.f a0 = some (r1, r2, r3)) :
    Calls Tryz.prog 7 #[.string a0] w fun e w' => ∃ v0_ : Value, e = .returned (.tuple #[v0_, .int .i64 r2, .int .i64 r3]) ∧ Kd.R k31 31 w' w.heap.size (fun _ => True) v0_ r1 ∧ Below w.heap.size w w' := H.Scan_calls a0 r1 r2 r3 w h

end Go.Proofs.YtlpoglkddknedaaGreatDoor.T

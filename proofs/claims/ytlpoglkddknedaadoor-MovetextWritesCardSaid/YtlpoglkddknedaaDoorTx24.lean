/- Written by a program of this session (a turned copy of the kit's print), with the contracts that were proved by hand in their places. -/
import Derived.Test.YtlpoglkddknedaaDoorTx0
import Derived.Test.YtlpoglkddknedaaDoorHu
namespace Go.Proofs.YtlpoglkddknedaaDoor.T
open Go.RowKit Go.Proofs.YtlpoglkddknedaaDoorW.PrintWords Go.Proofs.YtlpoglkddknedaaDoorW.PrintLast Go.Proofs.YtlpoglkddknedaaDoorW.PrintMore
attribute [local go_sem] max2_int min2_int max_two min_two max_three min_three max_four min_four   -- for this text's walks alone
set_option linter.unusedVariables false
set_option linter.unusedSimpArgs false


/-! ### movetext_Number: function 13: given by hand -/
def movetext_Number.f (a0 : Int) (a1 : Int) (a2 : Bool) : Option (ByteArray × Int) := some (H.numberF a0 a1 a2)
theorem movetext_Number.calls (a0 : Int) (a1 : Int) (a2 : Bool) (r1 : ByteArray) (r2 : Int) (w : World) (h : movetext_Number.f a0 a1 a2 = some (r1, r2)) (hg : H.Laid w) :
    Calls Tryd.prog 13 #[.int .i64 a0, .int .i64 a1, .bool a2] w fun e w' => e = .returned (.tuple #[.string r1, .int .i64 r2]) ∧ Below w.heap.size w w' := H.Number_calls a0 a1 a2 r1 r2 w h hg

end Go.Proofs.YtlpoglkddknedaaDoor.T

/- Written by a program of this session (a turned copy of the kit's print), with the contracts that were proved by hand in their places. -/
import Derived.Test.YtlpoglkddknedaaDoorTx0
import Derived.Test.YtlpoglkddknedaaDoorHf
namespace Go.Proofs.YtlpoglkddknedaaDoor.T
open Go.RowKit Go.Proofs.YtlpoglkddknedaaDoorW.PrintWords Go.Proofs.YtlpoglkddknedaaDoorW.PrintLast Go.Proofs.YtlpoglkddknedaaDoorW.PrintMore
attribute [local go_sem] max2_int min2_int max_two min_two max_three min_three max_four min_four   -- for this text's walks alone
set_option linter.unusedVariables false
set_option linter.unusedSimpArgs false


/-! ### movetext_Wrap: function 12: given by hand -/
def movetext_Wrap.f (l0 : List ByteArray) (a1 : Int) : Option (ByteArray × Int) := H.wrapG l0 a1
theorem movetext_Wrap.calls (A0 : Option Addr) (c0 : Nat) (l0 : List ByteArray) (a1 : Int) (r1 : ByteArray) (r2 : Int) (w : World) (hr0 : Kd.C Kd.string w A0 l0.length l0) (hc0 : l0.length ≤ c0) (h : movetext_Wrap.f l0 a1 = some (r1, r2)) (hg : H.Laid w) :
    Calls Tryd.prog 12 #[.slice A0 l0.length c0, .int .i64 a1] w fun e w' => e = .returned (.tuple #[.string r1, .int .i64 r2]) ∧ Below w.heap.size w w' := H.WrapG_calls A0 c0 l0 a1 r1 r2 w hr0 hc0 h hg

end Go.Proofs.YtlpoglkddknedaaDoor.T

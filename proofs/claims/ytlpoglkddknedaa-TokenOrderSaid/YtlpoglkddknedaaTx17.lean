/- Written by a program of this session (a turned copy of the kit's print), with the contracts that were proved by hand in their places. -/
import Derived.Test.YtlpoglkddknedaaTx0
import Derived.Test.YtlpoglkddknedaaHy
namespace Go.Proofs.Ytlpoglkddknedaa.T
open Go.RowKit Go.Proofs.YtlpoglkddknedaaW.PrintWords Go.Proofs.YtlpoglkddknedaaW.PrintLast Go.Proofs.YtlpoglkddknedaaW.PrintMore
attribute [local go_sem] max2_int min2_int max_two min_two max_three min_three max_four min_four   -- for this text's walks alone
set_option linter.unusedVariables false
set_option linter.unusedSimpArgs false


/-! ### tempolaw23_yielded: function 11: given by hand -/
def tempolaw23_yielded.f (a0 : ByteArray) : Option (List (S40)) := H.yieldF a0
theorem tempolaw23_yielded.calls (a0 : ByteArray) (r : List (S40)) (w : World) (h : tempolaw23_yielded.f a0 = some r) :
    Calls Try.prog 11 #[.string a0] w fun e w' => ∃ v0_ : Value, e = .returned (v0_) ∧ Kd.R k40 40 w' w.heap.size (fun _ => True) v0_ r ∧ Below w.heap.size w w' := H.yielded_calls a0 r w h

end Go.Proofs.Ytlpoglkddknedaa.T

/- Written by a program of this session (a turned copy of the kit's print), with the contracts that were proved by hand in their places. -/
import Derived.Test.YtlpoglkddknedaaTx0
import Derived.Test.YtlpoglkddknedaaHw
namespace Go.Proofs.Ytlpoglkddknedaa.T
open Go.RowKit Go.Proofs.YtlpoglkddknedaaW.PrintWords Go.Proofs.YtlpoglkddknedaaW.PrintLast Go.Proofs.YtlpoglkddknedaaW.PrintMore
attribute [local go_sem] max2_int min2_int max_two min_two max_three min_three max_four min_four   -- for this text's walks alone
set_option linter.unusedVariables false
set_option linter.unusedSimpArgs false


/-! ### tempolaw23_works: function 7: given by hand -/
def tempolaw23_works.f : Option (Bool) := some true
theorem tempolaw23_works.calls (r : Bool) (w : World) (h : tempolaw23_works.f = some r) :
    Calls Try.prog 7 #[] w fun e w' => e = .returned (.bool r) ∧ Below w.heap.size w w' := by
  obtain rfl := Option.some.inj h
  exact H.works_calls w

end Go.Proofs.Ytlpoglkddknedaa.T

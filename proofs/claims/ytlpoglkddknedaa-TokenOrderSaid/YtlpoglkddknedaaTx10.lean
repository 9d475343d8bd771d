/- Written by a program of this session (a turned copy of the kit's print), with the contracts that were proved by hand in their places. -/
import Derived.Test.YtlpoglkddknedaaTx0
import Derived.Test.YtlpoglkddknedaaHq
namespace Go.Proofs.Ytlpoglkddknedaa.T
open Go.RowKit Go.Proofs.YtlpoglkddknedaaW.PrintWords Go.Proofs.YtlpoglkddknedaaW.PrintLast Go.Proofs.YtlpoglkddknedaaW.PrintMore
attribute [local go_sem] max2_int min2_int max_two min_two max_three min_three max_four min_four   -- for this text's walks alone
set_option linter.unusedVariables false
set_option linter.unusedSimpArgs false


/-! ### token_Quote: function 13: given by hand -/
def token_Quote.f (a0 : ByteArray) : Option (ByteArray × Int) := if a0.size ≤ 140737488351232 then some (H.quoteF a0) else none
theorem token_Quote.calls (a0 : ByteArray) (r1 : ByteArray) (r2 : Int) (w : World) (h : token_Quote.f a0 = some (r1, r2)) :
    Calls Try.prog 13 #[.string a0] w fun e w' => e = .returned (.tuple #[.string r1, .int .i64 r2]) ∧ Below w.heap.size w w' := by
  unfold token_Quote.f at h
  split at h
  · rename_i hc
    have h' := Option.some.inj h
    have := H.quote_any a0 hc w
    rw [h'] at this
    exact this
  · cases h

end Go.Proofs.Ytlpoglkddknedaa.T

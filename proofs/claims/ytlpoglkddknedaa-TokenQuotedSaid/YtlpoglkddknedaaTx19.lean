/- Written by a program of this session (a turned copy of the kit's print), with the contracts that were proved by hand in their places. -/
import Derived.Test.YtlpoglkddknedaaTx0
import Derived.Test.YtlpoglkddknedaaHl
namespace Go.Proofs.Ytlpoglkddknedaa.T
open Go.RowKit Go.Proofs.YtlpoglkddknedaaW.PrintWords Go.Proofs.YtlpoglkddknedaaW.PrintLast Go.Proofs.YtlpoglkddknedaaW.PrintMore
attribute [local go_sem] max2_int min2_int max_two min_two max_three min_three max_four min_four   -- for this text's walks alone
set_option linter.unusedVariables false
set_option linter.unusedSimpArgs false


/-! ### tempolaw23_letters: function 17: given by hand -/
def tempolaw23_letters.f (a0 : List Int) (a1 : ByteArray) (a2 : Int) : Option (ByteArray) := H.lettersF a0 a1 a2
theorem tempolaw23_letters.calls (A0 : Option Addr) (c0 : Nat) (l0 : List Int) (a1 : ByteArray) (a2 : Int) (r : ByteArray) (w : World) (hr0 : Kd.C (Kd.int .u8) w A0 l0.length l0) (hc0 : l0.length ≤ c0) (h : tempolaw23_letters.f l0 a1 a2 = some r) :
    Calls Try.prog 17 #[.slice A0 l0.length c0, .string a1, .int .i64 a2] w fun e w' => e = .returned (.string r) ∧ Below w.heap.size w w' := H.letters_calls A0 c0 l0 a1 a2 r w hr0 hc0 h

end Go.Proofs.Ytlpoglkddknedaa.T

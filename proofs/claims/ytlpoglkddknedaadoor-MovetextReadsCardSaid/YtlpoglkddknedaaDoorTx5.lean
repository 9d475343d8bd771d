/- Written by a program of this session (a turned copy of the kit's print), with the contracts that were proved by hand in their places. -/
import Derived.Test.YtlpoglkddknedaaDoorTx0
import Derived.Test.YtlpoglkddknedaaDoorHp
import Derived.Test.YtlpoglkddknedaaDoorHq
namespace Go.Proofs.YtlpoglkddknedaaDoor.T
open Go.RowKit Go.Proofs.YtlpoglkddknedaaDoorW.PrintWords Go.Proofs.YtlpoglkddknedaaDoorW.PrintLast Go.Proofs.YtlpoglkddknedaaDoorW.PrintMore
attribute [local go_sem] max2_int min2_int max_two min_two max_three min_three max_four min_four   -- for this text's walks alone
set_option linter.unusedVariables false
set_option linter.unusedSimpArgs false


/-! ### movetext_Parse: function 10: given by hand -/
def movetext_Parse.f (l0 : List (S46)) (a1 : Int) : Option (List ByteArray × Int × Int × Int) := H.parseF l0 a1
theorem movetext_Parse.calls (A0 : Option Addr) (c0 : Nat) (l0 : List (S46)) (a1 : Int) (r1 : List ByteArray) (r2 : Int) (r3 : Int) (r4 : Int) (w : World) (hr0 : Kd.C k46 w A0 l0.length l0) (hc0 : l0.length ≤ c0) (h : movetext_Parse.f l0 a1 = some (r1, r2, r3, r4)) (hg : H.Laid w) :
    Calls Tryd.prog 10 #[.slice A0 l0.length c0, .int .i64 a1] w fun e w' => ∃ v0_ : Value, e = .returned (.tuple #[.agg #[v0_, .int .i64 r2], .int .i64 r3, .int .i64 r4]) ∧ Kd.R Kd.string 9 w' w.heap.size (fun _ => True) v0_ r1 ∧ Below w.heap.size w w' := H.Parse_calls A0 c0 l0 a1 r1 r2 r3 r4 w hr0 hc0 h hg

end Go.Proofs.YtlpoglkddknedaaDoor.T

namespace Go.Proofs.YtlpoglkddknedaaDoor.T
open Go.RowKit Go.Proofs.YtlpoglkddknedaaDoorW.PrintWords Go.Proofs.YtlpoglkddknedaaDoorW.PrintLast Go.Proofs.YtlpoglkddknedaaDoorW.PrintMore
attribute [local go_sem] max2_int min2_int max_two min_two max_three min_three max_four min_four   -- for this text's walks alone
set_option linter.unusedVariables false
set_option linter.unusedSimpArgs false


/-! ### movetext_Tags: function 11: given by hand -/
def movetext_Tags.f (l0 : List (S46)) (a1 : Int) : Option (List (S56) × Int × Int) := H.tagsF l0 a1
theorem movetext_Tags.calls (A0 : Option Addr) (c0 : Nat) (l0 : List (S46)) (a1 : Int) (r1 : List (S56)) (r2 : Int) (r3 : Int) (w : World) (hr0 : Kd.C k46 w A0 l0.length l0) (hc0 : l0.length ≤ c0) (h : movetext_Tags.f l0 a1 = some (r1, r2, r3)) :
    Calls Tryd.prog 11 #[.slice A0 l0.length c0, .int .i64 a1] w fun e w' => ∃ v0_ : Value, e = .returned (.tuple #[v0_, .int .i64 r2, .int .i64 r3]) ∧ Kd.R k56 56 w' w.heap.size (fun _ => True) v0_ r1 ∧ Below w.heap.size w w' := H.Tags_calls A0 c0 l0 a1 r1 r2 r3 w hr0 hc0 h

end Go.Proofs.YtlpoglkddknedaaDoor.T

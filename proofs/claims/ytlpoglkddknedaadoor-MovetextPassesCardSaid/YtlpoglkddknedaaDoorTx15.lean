/- Written by a program of this session (a turned copy of the kit's print), with the contracts that were proved by hand in their places. -/
import Derived.Test.YtlpoglkddknedaaDoorTx0
import Derived.Test.YtlpoglkddknedaaDoorHd
namespace Go.Proofs.YtlpoglkddknedaaDoor.T
open Go.RowKit Go.Proofs.YtlpoglkddknedaaDoorW.PrintWords Go.Proofs.YtlpoglkddknedaaDoorW.PrintLast Go.Proofs.YtlpoglkddknedaaDoorW.PrintMore
attribute [local go_sem] max2_int min2_int max_two min_two max_three min_three max_four min_four   -- for this text's walks alone
set_option linter.unusedVariables false
set_option linter.unusedSimpArgs false


/-! ### token_Scan: function 70: given by hand -/
def token_Scan.f (a0 : ByteArray) : Option ((List (S46)) × Int × Int) := H.scanF a0
theorem token_Scan.calls (a0 : ByteArray) (r1 : List (S46)) (r2 r3 : Int) (w : World) (h : token_Scan.f a0 = some (r1, r2, r3)) :
    Calls Tryd.prog 70 #[.string a0] w fun e w' => ∃ v0_ : Value, e = .returned (.tuple #[v0_, .int .i64 r2, .int .i64 r3]) ∧ Kd.R k46 46 w' w.heap.size (fun _ => True) v0_ r1 ∧ Below w.heap.size w w' := H.Scan_calls a0 r1 r2 r3 w h

end Go.Proofs.YtlpoglkddknedaaDoor.T

namespace Go.Proofs.YtlpoglkddknedaaDoor.T
open Go.RowKit Go.Proofs.YtlpoglkddknedaaDoorW.PrintWords Go.Proofs.YtlpoglkddknedaaDoorW.PrintLast Go.Proofs.YtlpoglkddknedaaDoorW.PrintMore
attribute [local go_sem] max2_int min2_int max_two min_two max_three min_three max_four min_four   -- for this text's walks alone
set_option linter.unusedVariables false
set_option linter.unusedSimpArgs false

/-! ### tempolaw25_scan: function 48 -/
def tempolaw25_scan.f (a0 : ByteArray) : Option ((List (S46))) := (token_Scan.f a0).bind fun bt125 => (some bt125.1)
set_option maxHeartbeats 8000000 in
set_option maxRecDepth 100000 in
theorem tempolaw25_scan.calls (a0 : ByteArray) (r : List (S46)) (w : World) (h : tempolaw25_scan.f a0 = some r) :
    Calls Tryd.prog 48 #[.string a0] w fun e w' => ∃ v0_ : Value, e = .returned (v0_) ∧ Kd.R k46 46 w' w.heap.size (fun _ => True) v0_ r ∧ Below w.heap.size w w' := by
  have HB := Aside0.mk (Below.refl w.heap.size w)
  have H : ((token_Scan.f a0).bind fun bt125 => (some bt125.1)) = some r := h
  clear h
  replace H := Option.bind_eq_some_iff.mp H
  obtain ⟨⟨t125, t126, t127⟩, A20, H⟩ := H
  replace H : (some t125) = some r := H
  have A2 := Aside0.mk A20
  clear A20
  obtain rfl := Option.some.inj H
  go_enter Tryd.func48, Tryd.ntmps48
  go_wp2_with (first | ((with_reducible refine gate_callee (f := 70) rfl ?_); refine goesL_ (some 8) rfl rfl Tryd.func70 (by kernel_rfl) rfl #[.string a0] rfl (by (try simp only [List.map_toArray, List.map_cons, List.map_nil]); first | done | rfl | (simp only [List.length_drop, List.length_take]; rfl)) ?_; (with_reducible refine (token_Scan.calls a0 t125 t126 t127 _ A2.out).mono ?_); rintro e w3 ⟨v128, rfl, ho0, hb⟩; refine ⟨_, rfl, ?_⟩; have n0_ := Aside0.mk (Kd.R_lower ho0 (below_size (by repeat (first | (with_reducible first | exact HB.out | apply below_alloc | apply pw_below_drewN | apply below_drew1) | exact HB.out)))); have n1_ := Aside0.mk (below_step (by repeat (first | (with_reducible first | exact HB.out | apply below_alloc | apply pw_below_drewN | apply below_drew1) | exact HB.out)) hb); clear HB; have HO129 := n0_; have HB := n1_; clear n0_ n1_; (try clear hb); (try clear hb2); (try clear hk); (try clear hi); (try clear ho0)))
  go_ret
  exact ⟨_, by first | rfl | (simp [errW_none, errW_some] <;> rfl) | (simp [*, errW_none, errW_some] <;> rfl), by (with_reducible repeat (first | apply Kd.R_alloc | apply Kd.R_drewN | apply Kd.R_drew)); exact HO129.out, by repeat (first | (with_reducible first | exact HB.out | apply below_alloc | apply pw_below_drewN | apply below_drew1) | exact HB.out)⟩

end Go.Proofs.YtlpoglkddknedaaDoor.T

/- slices.Repeat of a token, no time. -/
import Derived.Test.YtlpoglkddknedaaDoorHe
namespace Go.Proofs.YtlpoglkddknedaaDoor.Z
open Go.RowKit Go.Proofs.YtlpoglkddknedaaDoor.T Go.Proofs.YtlpoglkddknedaaDoor.H Go.Proofs.YtlpoglkddknedaaDoorW.PrintWords Go.Proofs.YtlpoglkddknedaaDoorW.PrintLast
set_option linter.unusedVariables false
set_option linter.unusedSimpArgs false
set_option maxHeartbeats 2000000 in
set_option maxRecDepth 100000 in
theorem Repeat0_call (ad : Addr) (c0 : Nat) (w : World) : Calls Tryd.prog 26 #[.slice (some ad) 1 c0, .int .i64 0] w fun e w' => ∃ v, e = .returned v ∧ Kd.R k46 46 w' w.heap.size (fun _ => True) v [] ∧ Below w.heap.size w w' := by
  obtain ⟨W1, cur, hmk, hrow, hlen, hb1⟩ := make46 w 0 (by decide)
  obtain rfl : cur = [] := List.eq_nil_of_length_eq_zero (by simpa using hlen)
  have hcp : ∀ ty, (Builtin.copy_ #[23, 23] ty #[.slice (some ⟨w.heap.size, 0, none⟩) 0 0, .slice (some ad) 1 c0]).run Tryd.prog W1 = .ok (.int .i64 0) (W1.setRow w.heap.size #[]) := fun ty => by
    have h := run_copy3 (P := Tryd.prog) W1 23 23 ty 46 w.heap.size 0 0 0 ad 1 c0 [] 46 [] Tryd.underlying23 (by kernel_rfl) hrow (by rfl) (fun j v hj => by simp at hj) (by decide) (fun u hu => by simp at hu)
    exact h
  have HROW := Lib.hid hrow
  have HB1 := Lib.hid hb1
  replace hmk : (Instr.makeSlice 23 (.int .i64 0) (.int .i64 0)).run Tryd.prog w = .ok (.slice (some ⟨w.heap.size, 0, none⟩) 0 0) W1 := hmk
  have hmu : ∀ w : World, Calls Tryd.prog 54 #[.int .u64 1, .int .u64 0] w fun e w' => e = .returned (.tuple #[.int .u64 0, .int .u64 0]) ∧ w' = w := fun w => mul_any 1 0 0 rfl (by decide) (by decide) (by decide) w
  have HMU := Lib.hid hmu
  clear hmu
  clear hrow hb1 hlen
  go_enter Tryd.func26, Tryd.ntmps26
  go_upto_region 8 with (first
    | (go_at_call 54; (with_reducible refine (HMU.out _).mono ?_); rintro e w1 ⟨rfl, rfl⟩))
  have HF := Lib.hid (show Below w1.heap.size w1 (W1.setRow w1.heap.size #[]) ∧ (W1.setRow w1.heap.size #[]).heap[w1.heap.size]? = some (.cells #[] 46 (0, 0)) from ⟨below_setRow HB1.out (Nat.le_refl _) _, row_heap HROW.out⟩)
  obtain ⟨W2, hW2⟩ : ∃ W2, W1.setRow w1.heap.size #[] = W2 := ⟨_, rfl⟩
  rw [hW2] at HF ⊢
  clear hW2 HROW HB1 hcp hmk
  go_loopg [8] 0 (fun kq v8 wr => v8 = .int .i64 0 ∧ Hid (wr = W2))
  case atStart => exact ⟨rfl, Lib.hid rfl⟩
  case round =>
    obtain ⟨rfl, HX⟩ := hrel
    obtain rfl : wr = W2 := HX.out
    go_wp2
    go_ret
    exact ⟨.slice (some ⟨w1.heap.size, 0, none⟩) 0 0, rfl, ⟨fun _ _ => trivial, [], ⟨rfl, .inr ⟨w1.heap.size, 0, #[], rfl, Nat.le_refl _, HF.out.2, Nat.le_refl _, Nat.zero_le _, rfl, rfl⟩⟩, flatT_reps _ _ _ []⟩, HF.out.1⟩
end Go.Proofs.YtlpoglkddknedaaDoor.Z

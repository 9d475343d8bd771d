/- token.Scan, over the walk of token.scan. Condition: scanF answers. -/
import Derived.Test.YtlpoglkddknedaaGreatDoorHc
namespace Go.Proofs.YtlpoglkddknedaaGreatDoor.H
open Go.RowKit Go.Proofs.YtlpoglkddknedaaGreatDoor.T Go.Proofs.YtlpoglkddknedaaGreatDoorW.PrintWords Go.Proofs.YtlpoglkddknedaaGreatDoorW.PrintLast
set_option linter.unusedVariables false
set_option linter.unusedSimpArgs false

theorem TokBox.new (W : World) : TokBox (W.alloc (.cells #[.slice none 0 0] 23)) W.heap.size W.heap.size [] :=
  ⟨Nat.le_refl _, _, blk_new W _, Kd.R_nil _ _ _ _ _⟩

set_option maxHeartbeats 1000000 in
theorem Scan_calls (a0 : ByteArray) (r1 : List (S31)) (r2 r3 : Int) (w : World) (h : scanF a0 = some (r1, r2, r3)) :
    Calls Tryz.prog 7 #[.string a0] w fun e w' => ∃ v0_ : Value, e = .returned (.tuple #[v0_, .int .i64 r2, .int .i64 r3]) ∧ Kd.R k31 31 w' w.heap.size (fun _ => True) v0_ r1 ∧ Below w.heap.size w w' := by
  unfold scanF at h
  split at h
  · rename_i hs
    obtain ⟨x, hx, h⟩ := Option.bind_eq_some_iff.1 h
    obtain ⟨toks, R⟩ := x
    split at h
    · rename_i hlen
      dsimp only at hlen h
      have HX := Lib.hid hx
      clear hx
      by_cases hR : 0 ≤ R
      · rw [if_pos hR] at h
        have h' := Option.some.inj h
        simp only [Prod.mk.injEq] at h'
        obtain ⟨rfl, rfl, rfl⟩ := h'
        clear h
        go_enter Tryz.func7, Tryz.ntmps7
        go_wp2_with (go_at_call 17; refine (scan_clo a0 hs w.heap.size w.heap.size toks R ⟨_, HX.out⟩ hlen _ (TokBox.new w) (by simp)).mono ?_; rintro e w1 ⟨rfl, hbox, hb⟩)
        go_ret3
        exact ⟨_, rfl, Kd.R_nil _ _ _ _ _, (show Below w.heap.size w (w.alloc _) from (Below.refl _ w).alloc (Nat.le_refl _) _).trans hb⟩
      · rw [if_neg hR] at h
        have h' := Option.some.inj h
        simp only [Prod.mk.injEq] at h'
        obtain ⟨rfl, rfl, rfl⟩ := h'
        have hR' : R < 0 := by omega
        clear h hR
        go_enter Tryz.func7, Tryz.ntmps7
        go_wp2_with (go_at_call 17; refine (scan_clo a0 hs w.heap.size w.heap.size toks R ⟨_, HX.out⟩ hlen _ (TokBox.new w) (by simp)).mono ?_; rintro e w1 ⟨rfl, hbox, hb⟩; obtain ⟨hB, v, hv, hRR⟩ := hbox; have hc := (blk_cell hv 0).trans (show #[v][0]? = some v from rfl); have HRR := Lib.hid hRR; have HB := Lib.hid hb; clear hv hRR hb hB)
        go_ret3
        exact ⟨_, rfl, Kd.R_mono HRR.out (fun _ _ => trivial), (show Below w.heap.size w (w.alloc _) from (Below.refl _ w).alloc (Nat.le_refl _) _).trans HB.out⟩
    · cases h
  · cases h
end Go.Proofs.YtlpoglkddknedaaGreatDoor.H

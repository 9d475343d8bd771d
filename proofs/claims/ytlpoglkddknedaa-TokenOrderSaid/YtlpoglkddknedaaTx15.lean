/- Written by a program of this session (a turned copy of the kit's print), with the contracts that were proved by hand in their places. -/
import Derived.Test.YtlpoglkddknedaaTx0
import Derived.Test.YtlpoglkddknedaaTx13
import Derived.Test.YtlpoglkddknedaaTx14
namespace Go.Proofs.Ytlpoglkddknedaa.T
open Go.RowKit Go.Proofs.YtlpoglkddknedaaW.PrintWords Go.Proofs.YtlpoglkddknedaaW.PrintLast Go.Proofs.YtlpoglkddknedaaW.PrintMore
attribute [local go_sem] max2_int min2_int max_two min_two max_three min_three max_four min_four   -- for this text's walks alone
set_option linter.unusedVariables false
set_option linter.unusedSimpArgs false

/-! ### temporef23_token: function 36 -/
mutual
def temporef23_token.j0 : Nat → ByteArray → Int → Int → Bool → Int → ByteArray → Int → Option (Int × ByteArray × Int × Int)
  | 0, _, _, _, _, _, _, _ => none
  | k + 1, x0, x1, x6, x26, x129000, x129001, x129002 => if x26 = true then ((temporef23_run.f k x0 x1 true).bind fun t131 => (if 0 ≤ x1 then (if x1 ≤ t131 then (if t131 ≤ (x0.size : Int) then (if (wrap64 (t131 - x1)) > 255 then (some (0, (⟨#[]⟩ : ByteArray), 0, 0)) else (some (2, x0.extract (x1 : Int).toNat (t131 : Int).toNat, x129002, t131))) else (none)) else (none)) else (none))) else (if x6 = 34 then ((temporef23_quoted.f k x0 x1).bind fun bt132 => (some (1, bt132.1, x129002, bt132.2))) else (if x6 = 36 then ((temporef23_run.f k x0 (wrap64 (x1 + 1)) false).bind fun t134 => (if 0 ≤ (wrap64 (x1 + 1)) then (if (wrap64 (x1 + 1)) ≤ t134 then (if t134 ≤ (x0.size : Int) then (if ((x0.extract ((wrap64 (x1 + 1)) : Int).toNat (t134 : Int).toNat).size : Int) < 1 then (some (0, (⟨#[]⟩ : ByteArray), 0, 0)) else (if ((x0.extract ((wrap64 (x1 + 1)) : Int).toNat (t134 : Int).toNat).size : Int) > 3 then (some (0, (⟨#[]⟩ : ByteArray), 0, 0)) else (some (9, x0.extract ((wrap64 (x1 + 1)) : Int).toNat (t134 : Int).toNat, x129002, t134)))) else (none)) else (none)) else (none))) else (if x6 = 123 then ((temporef23_until.f k x0 x1 125).bind fun t135 => (if t135 = (x0.size : Int) then (some (0, (⟨#[]⟩ : ByteArray), 0, 0)) else (if 0 ≤ (wrap64 (x1 + 1)) then (if (wrap64 (x1 + 1)) ≤ t135 then (if t135 ≤ (x0.size : Int) then (some (10, x0.extract ((wrap64 (x1 + 1)) : Int).toNat (t135 : Int).toNat, x129002, wrap64 (t135 + 1))) else (none)) else (none)) else (none)))) else (if x6 = 59 then ((temporef23_until.f k x0 x1 10).bind fun t136 => (if 0 ≤ (wrap64 (x1 + 1)) then (if (wrap64 (x1 + 1)) ≤ t136 then (if t136 ≤ (x0.size : Int) then (some (10, x0.extract ((wrap64 (x1 + 1)) : Int).toNat (t136 : Int).toNat, x129002, t136)) else (none)) else (none)) else (none))) else (if x6 = 33 then (temporef23_token.j1 k x0 x1 x6 (x6 == 33) x129000 x129001 x129002) else (temporef23_token.j1 k x0 x1 x6 (x6 == 63) x129000 x129001 x129002))))))
def temporef23_token.j1 : Nat → ByteArray → Int → Int → Bool → Int → ByteArray → Int → Option (Int × ByteArray × Int × Int)
  | 0, _, _, _, _, _, _, _ => none
  | k + 1, x0, x1, x6, x116, x129000, x129001, x129002 => if x116 = true then (if (wrap64 (x1 + 1)) < (x0.size : Int) then (if 0 ≤ (wrap64 (x1 + 1)) then ((temporef23_in.f k (bt x0 (wrap64 (x1 + 1))) (⟨#[33, 63]⟩ : ByteArray)).bind fun t137 => (if t137 = true then (if 0 ≤ x1 then (if x1 ≤ (wrap64 ((wrap64 (x1 + 1)) + 1)) then (if (wrap64 ((wrap64 (x1 + 1)) + 1)) ≤ (x0.size : Int) then (some (11, x0.extract (x1 : Int).toNat ((wrap64 ((wrap64 (x1 + 1)) + 1)) : Int).toNat, x129002, wrap64 ((wrap64 (x1 + 1)) + 1))) else (none)) else (none)) else (none)) else (if 0 ≤ x1 then (if x1 ≤ (wrap64 (x1 + 1)) then (if (wrap64 (x1 + 1)) ≤ (x0.size : Int) then (some (11, x0.extract (x1 : Int).toNat ((wrap64 (x1 + 1)) : Int).toNat, x129002, wrap64 (x1 + 1))) else (none)) else (none)) else (none)))) else (none)) else (if 0 ≤ x1 then (if x1 ≤ (wrap64 (x1 + 1)) then (if (wrap64 (x1 + 1)) ≤ (x0.size : Int) then (some (11, x0.extract (x1 : Int).toNat ((wrap64 (x1 + 1)) : Int).toNat, x129002, wrap64 (x1 + 1))) else (none)) else (none)) else (none))) else (temporef23_token.l0 k x1 x6 (⟨#[46, 42, 91, 93, 40, 41]⟩ : ByteArray) 0 x129000 x129001 x129002)
def temporef23_token.l0 : Nat → Int → Int → ByteArray → Int → Int → ByteArray → Int → Option (Int × ByteArray × Int × Int)
  | 0, _, _, _, _, _, _, _ => none
  | k + 1, x1, x6, x9, x10, x129000, x129001, x129002 => if x10 < (x9.size : Int) then (if 0 ≤ x10 then (if (bt x9 x10) = x6 then (some (wrap64 (3 + x10), x129001, x129002, wrap64 (x1 + 1))) else (temporef23_token.l0 k x1 x6 x9 (wrap64 (x10 + 1)) x129000 x129001 x129002)) else (none)) else (some (0, (⟨#[]⟩ : ByteArray), 0, 0))
end
def temporef23_token.f (k : Nat) (a0 : ByteArray) (a1 : Int) : Option (Int × ByteArray × Int × Int) := if 0 ≤ a1 then (if a1 < (a0.size : Int) then (if a1 ≤ (wrap64 (a1 + 1)) then (if (wrap64 (a1 + 1)) ≤ (a0.size : Int) then ((temporef23_letter.f (bt a0 a1)).bind fun t129 => (if t129 = true then (temporef23_token.j0 k a0 a1 (bt a0 a1) true 0 (a0.extract (a1 : Int).toNat ((wrap64 (a1 + 1)) : Int).toNat) a1) else ((temporef23_digit.f (bt a0 a1)).bind fun t130 => (temporef23_token.j0 k a0 a1 (bt a0 a1) t130 0 (a0.extract (a1 : Int).toNat ((wrap64 (a1 + 1)) : Int).toNat) a1)))) else (none)) else (none)) else (none)) else (none)
theorem temporef23_token.mono_l : ∀ k, (∀ y0 y1 y2 y3 y4 y5 y6, LeO (temporef23_token.j0 k y0 y1 y2 y3 y4 y5 y6) (temporef23_token.j0 (k + 1) y0 y1 y2 y3 y4 y5 y6)) ∧ (∀ y0 y1 y2 y3 y4 y5 y6, LeO (temporef23_token.j1 k y0 y1 y2 y3 y4 y5 y6) (temporef23_token.j1 (k + 1) y0 y1 y2 y3 y4 y5 y6)) ∧ (∀ y0 y1 y2 y3 y4 y5 y6, LeO (temporef23_token.l0 k y0 y1 y2 y3 y4 y5 y6) (temporef23_token.l0 (k + 1) y0 y1 y2 y3 y4 y5 y6))
  | 0 => ⟨fun _ _ _ _ _ _ _ r h => by simp [temporef23_token.j0] at h, fun _ _ _ _ _ _ _ r h => by simp [temporef23_token.j1] at h, fun _ _ _ _ _ _ _ r h => by simp [temporef23_token.l0] at h⟩
  | k + 1 => by
    obtain ⟨ih0, ih1, ih2⟩ := temporef23_token.mono_l k
    refine ⟨?_, ?_, ?_⟩
    · intro y0 y1 y2 y3 y4 y5 y6
      unfold temporef23_token.j0
      repeat' first
      | (with_reducible exact ih0 _ _ _ _ _ _ _)
      | (with_reducible exact ih1 _ _ _ _ _ _ _)
      | (with_reducible exact ih2 _ _ _ _ _ _ _)
      | (with_reducible exact temporef23_in.mono _ _ _)
      | (with_reducible exact temporef23_quoted.mono _ _ _)
      | (with_reducible exact temporef23_run.mono _ _ _ _)
      | (with_reducible exact temporef23_until.mono _ _ _ _)
      | (with_reducible exact LeO.refl _)
      | (with_reducible exact LeO.none _)
      | (with_reducible refine LeO.ite ?_ ?_)
      | (with_reducible refine LeO.bind ?_ (fun _ => ?_))
      | exact ih0 _ _ _ _ _ _ _
      | exact ih1 _ _ _ _ _ _ _
      | exact ih2 _ _ _ _ _ _ _
      | exact temporef23_in.mono _ _ _
      | exact temporef23_quoted.mono _ _ _
      | exact temporef23_run.mono _ _ _ _
      | exact temporef23_until.mono _ _ _ _
      | exact LeO.none _
      | refine LeO.ite ?_ ?_
      | refine LeO.bind ?_ (fun _ => ?_)
    · intro y0 y1 y2 y3 y4 y5 y6
      unfold temporef23_token.j1
      repeat' first
      | (with_reducible exact ih0 _ _ _ _ _ _ _)
      | (with_reducible exact ih1 _ _ _ _ _ _ _)
      | (with_reducible exact ih2 _ _ _ _ _ _ _)
      | (with_reducible exact temporef23_in.mono _ _ _)
      | (with_reducible exact temporef23_quoted.mono _ _ _)
      | (with_reducible exact temporef23_run.mono _ _ _ _)
      | (with_reducible exact temporef23_until.mono _ _ _ _)
      | (with_reducible exact LeO.refl _)
      | (with_reducible exact LeO.none _)
      | (with_reducible refine LeO.ite ?_ ?_)
      | (with_reducible refine LeO.bind ?_ (fun _ => ?_))
      | exact ih0 _ _ _ _ _ _ _
      | exact ih1 _ _ _ _ _ _ _
      | exact ih2 _ _ _ _ _ _ _
      | exact temporef23_in.mono _ _ _
      | exact temporef23_quoted.mono _ _ _
      | exact temporef23_run.mono _ _ _ _
      | exact temporef23_until.mono _ _ _ _
      | exact LeO.none _
      | refine LeO.ite ?_ ?_
      | refine LeO.bind ?_ (fun _ => ?_)
    · intro y0 y1 y2 y3 y4 y5 y6
      unfold temporef23_token.l0
      repeat' first
      | (with_reducible exact ih0 _ _ _ _ _ _ _)
      | (with_reducible exact ih1 _ _ _ _ _ _ _)
      | (with_reducible exact ih2 _ _ _ _ _ _ _)
      | (with_reducible exact temporef23_in.mono _ _ _)
      | (with_reducible exact temporef23_quoted.mono _ _ _)
      | (with_reducible exact temporef23_run.mono _ _ _ _)
      | (with_reducible exact temporef23_until.mono _ _ _ _)
      | (with_reducible exact LeO.refl _)
      | (with_reducible exact LeO.none _)
      | (with_reducible refine LeO.ite ?_ ?_)
      | (with_reducible refine LeO.bind ?_ (fun _ => ?_))
      | exact ih0 _ _ _ _ _ _ _
      | exact ih1 _ _ _ _ _ _ _
      | exact ih2 _ _ _ _ _ _ _
      | exact temporef23_in.mono _ _ _
      | exact temporef23_quoted.mono _ _ _
      | exact temporef23_run.mono _ _ _ _
      | exact temporef23_until.mono _ _ _ _
      | exact LeO.none _
      | refine LeO.ite ?_ ?_
      | refine LeO.bind ?_ (fun _ => ?_)
theorem temporef23_token.mono : ∀ a0 a1 k, LeO (temporef23_token.f k a0 a1) (temporef23_token.f (k + 1) a0 a1) := by
  intro a0 a1 k
  obtain ⟨ih0, ih1, ih2⟩ := temporef23_token.mono_l k
  unfold temporef23_token.f
  repeat' first
      | (with_reducible exact ih0 _ _ _ _ _ _ _)
      | (with_reducible exact ih1 _ _ _ _ _ _ _)
      | (with_reducible exact ih2 _ _ _ _ _ _ _)
      | (with_reducible exact temporef23_in.mono _ _ _)
      | (with_reducible exact temporef23_quoted.mono _ _ _)
      | (with_reducible exact temporef23_run.mono _ _ _ _)
      | (with_reducible exact temporef23_until.mono _ _ _ _)
      | (with_reducible exact LeO.refl _)
      | (with_reducible exact LeO.none _)
      | (with_reducible refine LeO.ite ?_ ?_)
      | (with_reducible refine LeO.bind ?_ (fun _ => ?_))
      | exact ih0 _ _ _ _ _ _ _
      | exact ih1 _ _ _ _ _ _ _
      | exact ih2 _ _ _ _ _ _ _
      | exact temporef23_in.mono _ _ _
      | exact temporef23_quoted.mono _ _ _
      | exact temporef23_run.mono _ _ _ _
      | exact temporef23_until.mono _ _ _ _
      | exact LeO.none _
      | refine LeO.ite ?_ ?_
      | refine LeO.bind ?_ (fun _ => ?_)
set_option maxHeartbeats 8000000 in
set_option maxRecDepth 100000 in
theorem temporef23_token.calls (k : Nat) (a0 : ByteArray) (a1 : Int) (r1 : Int) (r2 : ByteArray) (r3 : Int) (r4 : Int) (w : World) (h : temporef23_token.f k a0 a1 = some (r1, r2, r3, r4)) :
    Calls Try.prog 36 #[.string a0, .int .i64 a1] w fun e w' => e = .returned (.tuple #[.agg #[.int .i64 r1, .string r2, .int .i64 r3], .int .i64 r4]) ∧ Below w.heap.size w w' := by
  have hu52 := Try.underlying52
  have HB := Aside0.mk (Below.refl w.heap.size w)
  have H : (if 0 ≤ a1 then (if a1 < (a0.size : Int) then (if a1 ≤ (wrap64 (a1 + 1)) then (if (wrap64 (a1 + 1)) ≤ (a0.size : Int) then ((temporef23_letter.f (bt a0 a1)).bind fun t129 => (if t129 = true then (temporef23_token.j0 k a0 a1 (bt a0 a1) true 0 (a0.extract (a1 : Int).toNat ((wrap64 (a1 + 1)) : Int).toNat) a1) else ((temporef23_digit.f (bt a0 a1)).bind fun t130 => (temporef23_token.j0 k a0 a1 (bt a0 a1) t130 0 (a0.extract (a1 : Int).toNat ((wrap64 (a1 + 1)) : Int).toNat) a1)))) else (none)) else (none)) else (none)) else (none)) = some (r1, r2, r3, r4) := h
  clear h
  by_cases c3 : 0 ≤ a1
  · rw [if_pos c3] at H
    have c3b0 : decide (0 ≤ a1) = true := decide_eq_true c3
    clear c3
    by_cases c4 : a1 < (a0.size : Int)
    · rw [if_pos c4] at H
      have c4b0 : decide (a1 < (a0.size : Int)) = true := decide_eq_true c4
      clear c4
      have c6b0 := eq_true (of_decide_eq_true (by first | (with_reducible assumption) | assumption) : 0 ≤ a1)
      by_cases c7 : a1 ≤ (wrap64 (a1 + 1))
      · rw [if_pos c7] at H
        have c7b0 := eq_true c7
        have c7b1 : decide (a1 ≤ (wrap64 (a1 + 1))) = true := decide_eq_true c7
        by_cases c8 : (wrap64 (a1 + 1)) ≤ (a0.size : Int)
        · rw [if_pos c8] at H
          have c8b0 := eq_true c8
          have c8b1 : decide ((wrap64 (a1 + 1)) ≤ (a0.size : Int)) = true := decide_eq_true c8
          have HC9 := Aside0.mk H
          clear H
          go_enter Try.func36, Try.ntmps36
          go_upto_region 4 with (first | ((with_reducible refine gate_dst (N := 4) rfl ?_); (try (refine gate_guard (by rfl) ?_; dsimp only)); refine box_event ?hg (N := 4) ?hd (cs := #[.int .i64 0, .string (⟨#[]⟩ : ByteArray), .int .i64 0]) (t := 52) ?hr ?_; (case hd => rfl); (case hg => rfl); (case hr => first | (go_simp; done) | (go_simp; rfl)); intro gb127 hg w10 hbox hb; have n0_ := Aside0.mk (below_step (by repeat (first | (with_reducible first | exact HB.out | apply below_alloc | apply pw_below_drewN | apply below_drew1) | exact HB.out)) hb); have n1_ := Aside0.mk (hbox); have n2_ := Aside0.mk ((by rw [hg]; exact (below_size (by repeat (first | (with_reducible first | exact HB.out | apply below_alloc | apply pw_below_drewN | apply below_drew1) | exact HB.out))) : w.heap.size ≤ gb127)); have n3_ := Aside0.mk ((by rw [hg]; exact (below_size (by repeat (first | (with_reducible first | exact HB.out | apply below_alloc | apply pw_below_drewN | apply below_drew1) | exact HB.out))) : w.heap.size ≤ gb127)); clear HB; have HB := n0_; have BK127 := n1_; have GW127 := n2_; have GE127 := n3_; clear n0_ n1_ n2_ n3_; clear hb hbox hg; have p5 : 0 ≤ (a1 : Int) := of_decide_eq_true (by first | (with_reducible assumption) | assumption); have q5 : a1 < (a0.size : Int) := of_decide_eq_true (by first | (with_reducible assumption) | assumption); have hx5 := bt_at a0 a1; replace p5 := eq_true p5; replace q5 := eq_true q5) | ((with_reducible refine gate_dst (N := 7) rfl ?_); (try (refine gate_guard (by rfl) ?_; dsimp only)); refine box_event ?hg (N := 7) ?hd (cs := #[.int .i64 0, .string (⟨#[]⟩ : ByteArray), .int .i64 0]) (t := 52) ?hr ?_; (case hd => rfl); (case hg => rfl); (case hr => first | (go_simp; done) | (go_simp; rfl)); intro gb128 hg w11 hbox hb; have n0_ := Aside0.mk (blk_below (g := gb127) (o := .cells #[.int .i64 0, .string (⟨#[]⟩ : ByteArray), .int .i64 0] 52 (0, 0)) (by (with_reducible repeat (first | refine blk_drewN ?_ _ | refine blk_drew ?_ | refine blk_alloc ?_ _)); exact BK127.out) hb); have n1_ := Aside0.mk (below_step (by repeat (first | (with_reducible first | exact HB.out | apply below_alloc | apply pw_below_drewN | apply below_drew1 | refine below_set ?_ GE127.out) | exact HB.out)) hb); have n2_ := Aside0.mk (hbox); have n3_ := Aside0.mk ((by rw [hg]; exact (below_size (by repeat (first | (with_reducible first | exact HB.out | apply below_alloc | apply pw_below_drewN | apply below_drew1 | refine below_set ?_ GE127.out) | exact HB.out))) : w.heap.size ≤ gb128)); have n4_ := Aside0.mk ((by rw [hg]; exact (below_size (by repeat (first | (with_reducible first | exact HB.out | apply below_alloc | apply pw_below_drewN | apply below_drew1 | refine below_set ?_ GE127.out) | exact HB.out))) : w.heap.size ≤ gb128)); have n5_ := Aside0.mk ((by rw [hg]; exact Nat.ne_of_lt (blk_lt (g := gb127) (o := .cells #[.int .i64 0, .string (⟨#[]⟩ : ByteArray), .int .i64 0] 52 (0, 0)) (by (with_reducible repeat (first | refine blk_drewN ?_ _ | refine blk_drew ?_ | refine blk_alloc ?_ _)); exact BK127.out)) : gb127 ≠ gb128)); have n6_ := Aside0.mk ((by rw [hg]; exact Nat.ne_of_gt (blk_lt (g := gb127) (o := .cells #[.int .i64 0, .string (⟨#[]⟩ : ByteArray), .int .i64 0] 52 (0, 0)) (by (with_reducible repeat (first | refine blk_drewN ?_ _ | refine blk_drew ?_ | refine blk_alloc ?_ _)); exact BK127.out)) : gb128 ≠ gb127)); clear BK127; clear HB; have BK127 := n0_; have HB := n1_; have BK128 := n2_; have GW128 := n3_; have GE128 := n4_; have NB127_128 := n5_; have NB128_127 := n6_; clear n0_ n1_ n2_ n3_ n4_ n5_ n6_; clear hb hbox hg; have hnb12 := NB128_127.out; have hnc12 := NB127_128.out; have hcz13_0 : w11.cell? ⟨gb128, 0, none⟩ = some (.int .i64 0) := (blk_cell BK128.out 0).trans rfl; have hcz13_1 : w11.cell? ⟨gb128, 1, none⟩ = some (.string (⟨#[]⟩ : ByteArray)) := (blk_cell BK128.out 1).trans rfl; have hcz13_2 : w11.cell? ⟨gb128, 2, none⟩ = some (.int .i64 0) := (blk_cell BK128.out 2).trans rfl; have hfz13_0 := blk_frozen BK128.out 0; have hfz13_1 := blk_frozen BK128.out 1; have hfz13_2 := blk_frozen BK128.out 2))
          (try simp only [Act.put, List.setIfInBounds_toArray, List.set_cons_zero, List.set_cons_succ])
          go_cut [26] (fun v26 wc => ∃ (kq : Nat) (x26_8 : Bool), v26 = .bool x26_8 ∧ Aside0 (temporef23_token.j0 kq a0 a1 (bt a0 a1) x26_8 0 (a0.extract (a1 : Int).toNat ((wrap64 (a1 + 1)) : Int).toNat) a1 = some (r1, r2, r3, r4)) ∧ Aside0 (kq ≤ k) ∧ Aside0 (wc.heap[gb127]? = some (.cells #[.int .i64 0, .string (⟨#[]⟩ : ByteArray), .int .i64 0] 52 (0, 0))) ∧ Aside0 (wc.heap[gb128]? = some (.cells #[.int .i64 0, .string (a0.extract (a1 : Int).toNat ((wrap64 (a1 + 1)) : Int).toNat), .int .i64 a1] 52 (0, 0))) ∧ Aside0 (Below w.heap.size w wc))
          case first =>
            have H := HC9.out
            clear HC9
            replace H := Option.bind_eq_some_iff.mp H
            obtain ⟨t129, A140, H⟩ := H
            replace H : (if t129 = true then (temporef23_token.j0 k a0 a1 (bt a0 a1) true 0 (a0.extract (a1 : Int).toNat ((wrap64 (a1 + 1)) : Int).toNat) a1) else ((temporef23_digit.f (bt a0 a1)).bind fun t130 => (temporef23_token.j0 k a0 a1 (bt a0 a1) t130 0 (a0.extract (a1 : Int).toNat ((wrap64 (a1 + 1)) : Int).toNat) a1))) = some (r1, r2, r3, r4) := H
            have A14 := Aside0.mk A140
            clear A140
            by_cases c15 : t129 = true
            · subst c15
              have H1 : (temporef23_token.j0 k a0 a1 (bt a0 a1) true 0 (a0.extract (a1 : Int).toNat ((wrap64 (a1 + 1)) : Int).toNat) a1) = some (r1, r2, r3, r4) := by rw [if_pos rfl] at H; exact H
              clear H
              have H := H1
              clear H1
              have H' := Aside0.mk H
              clear H
              go_wp2_with (first | ((with_reducible refine gate_callee (f := 44) rfl ?_); refine goesL_ (some 22) rfl rfl Try.func44 (by kernel_rfl) rfl #[.int .u8 (bt a0 a1)] rfl (by (try simp only [List.map_toArray, List.map_cons, List.map_nil]); first | done | rfl | (simp only [List.length_drop, List.length_take]; rfl)) ?_; (with_reducible refine (temporef23_letter.calls (bt a0 a1) true _ A14.out).mono ?_); rintro e w' ⟨rfl, ⟨nd, rfl⟩⟩; refine ⟨_, rfl, ?_⟩))
              go_meet
              case rel => exact ⟨_, (true), (by first | rfl | (simp; done) | (simp [*]; done)), H', ⟨by first | omega | exact Nat.le_refl _⟩, ⟨by (with_reducible repeat (first | refine blk_drewN ?_ _ | refine blk_drew ?_ | refine blk_alloc ?_ _)); refine blk_far ?_ NB127_128.out _; (with_reducible repeat (first | refine blk_drewN ?_ _ | refine blk_drew ?_ | refine blk_alloc ?_ _)); refine blk_far ?_ NB127_128.out _; (with_reducible repeat (first | refine blk_drewN ?_ _ | refine blk_drew ?_ | refine blk_alloc ?_ _)); refine blk_far ?_ NB127_128.out _; (with_reducible repeat (first | refine blk_drewN ?_ _ | refine blk_drew ?_ | refine blk_alloc ?_ _)); exact BK127.out⟩, ⟨by (with_reducible repeat (first | refine blk_drewN ?_ _ | refine blk_drew ?_ | refine blk_alloc ?_ _)); refine blk_put (cs := #[.int .i64 0, .string (a0.extract (a1 : Int).toNat ((wrap64 (a1 + 1)) : Int).toNat), .int .i64 0]) ?_ 2 _ rfl; (with_reducible repeat (first | refine blk_drewN ?_ _ | refine blk_drew ?_ | refine blk_alloc ?_ _)); refine blk_put (cs := #[.int .i64 0, .string (⟨#[]⟩ : ByteArray), .int .i64 0]) ?_ 1 _ rfl; (with_reducible repeat (first | refine blk_drewN ?_ _ | refine blk_drew ?_ | refine blk_alloc ?_ _)); refine blk_put (cs := #[.int .i64 0, .string (⟨#[]⟩ : ByteArray), .int .i64 0]) ?_ 0 _ rfl; (with_reducible repeat (first | refine blk_drewN ?_ _ | refine blk_drew ?_ | refine blk_alloc ?_ _)); exact BK128.out⟩, ⟨by repeat (first | (with_reducible first | exact HB.out | apply below_alloc | apply pw_below_drewN | apply below_drew1 | refine below_set ?_ GE127.out | refine below_set ?_ GE128.out) | exact HB.out)⟩⟩
            · replace c15 := Bool.eq_false_iff.mpr c15
              subst c15
              have H1 : ((temporef23_digit.f (bt a0 a1)).bind fun t130 => (temporef23_token.j0 k a0 a1 (bt a0 a1) t130 0 (a0.extract (a1 : Int).toNat ((wrap64 (a1 + 1)) : Int).toNat) a1)) = some (r1, r2, r3, r4) := by rw [if_neg (show ¬ (false = true) by decide)] at H; exact H
              clear H
              have H := H1
              clear H1
              replace H := Option.bind_eq_some_iff.mp H
              obtain ⟨t130, A160, H⟩ := H
              replace H : (temporef23_token.j0 k a0 a1 (bt a0 a1) t130 0 (a0.extract (a1 : Int).toNat ((wrap64 (a1 + 1)) : Int).toNat) a1) = some (r1, r2, r3, r4) := H
              have A16 := Aside0.mk A160
              clear A160
              have H' := Aside0.mk H
              clear H
              go_wp2_with (first | ((with_reducible refine gate_callee (f := 44) rfl ?_); refine goesL_ (some 22) rfl rfl Try.func44 (by kernel_rfl) rfl #[.int .u8 (bt a0 a1)] rfl (by (try simp only [List.map_toArray, List.map_cons, List.map_nil]); first | done | rfl | (simp only [List.length_drop, List.length_take]; rfl)) ?_; (with_reducible refine (temporef23_letter.calls (bt a0 a1) false _ A14.out).mono ?_); rintro e w' ⟨rfl, ⟨nd, rfl⟩⟩; refine ⟨_, rfl, ?_⟩) | (go_at_call 45; (with_reducible refine (temporef23_digit.calls (bt a0 a1) t130 _ A16.out).mono ?_); rintro e w' ⟨rfl, ⟨nd, rfl⟩⟩))
              go_meet
              case rel => exact ⟨_, (t130), (by first | rfl | (simp; done) | (simp [*]; done)), H', ⟨by first | omega | exact Nat.le_refl _⟩, ⟨by (with_reducible repeat (first | refine blk_drewN ?_ _ | refine blk_drew ?_ | refine blk_alloc ?_ _)); refine blk_far ?_ NB127_128.out _; (with_reducible repeat (first | refine blk_drewN ?_ _ | refine blk_drew ?_ | refine blk_alloc ?_ _)); refine blk_far ?_ NB127_128.out _; (with_reducible repeat (first | refine blk_drewN ?_ _ | refine blk_drew ?_ | refine blk_alloc ?_ _)); refine blk_far ?_ NB127_128.out _; (with_reducible repeat (first | refine blk_drewN ?_ _ | refine blk_drew ?_ | refine blk_alloc ?_ _)); exact BK127.out⟩, ⟨by (with_reducible repeat (first | refine blk_drewN ?_ _ | refine blk_drew ?_ | refine blk_alloc ?_ _)); refine blk_put (cs := #[.int .i64 0, .string (a0.extract (a1 : Int).toNat ((wrap64 (a1 + 1)) : Int).toNat), .int .i64 0]) ?_ 2 _ rfl; (with_reducible repeat (first | refine blk_drewN ?_ _ | refine blk_drew ?_ | refine blk_alloc ?_ _)); refine blk_put (cs := #[.int .i64 0, .string (⟨#[]⟩ : ByteArray), .int .i64 0]) ?_ 1 _ rfl; (with_reducible repeat (first | refine blk_drewN ?_ _ | refine blk_drew ?_ | refine blk_alloc ?_ _)); refine blk_put (cs := #[.int .i64 0, .string (⟨#[]⟩ : ByteArray), .int .i64 0]) ?_ 0 _ rfl; (with_reducible repeat (first | refine blk_drewN ?_ _ | refine blk_drew ?_ | refine blk_alloc ?_ _)); exact BK128.out⟩, ⟨by repeat (first | (with_reducible first | exact HB.out | apply below_alloc | apply pw_below_drewN | apply below_drew1 | refine below_set ?_ GE127.out | refine below_set ?_ GE128.out) | exact HB.out)⟩⟩
          case rest =>
            clear HC9
            try clear c1
            try clear p2
            try clear c3
            try clear c3b0
            try clear c4
            try clear c4b0
            try clear p5
            try clear q5
            try clear hx5
            try clear c6
            try clear c6b0
            try clear p6
            try clear c7
            try clear c7b0
            try clear c7b1
            try clear c8
            try clear c8b0
            try clear c8b1
            try clear c12
            try clear c15
            try clear hcz13_0
            try clear hcz13_1
            try clear hcz13_2
            try clear hfz13_0
            try clear hfz13_1
            try clear hfz13_2
            try clear p5
            try clear q5
            obtain ⟨kq, x26_8, rfl, HA, HJ8, BK127, BK128, HB⟩ := hcut
            cases kq with
            | zero => exact absurd HA.out (by simp [temporef23_token.j0])
            | succ kj8 =>
              have H := HA.out
              clear HA
              simp only [temporef23_token.j0] at H
              by_cases c17 : x26_8 = true
              · subst c17
                have H1 : ((temporef23_run.f kj8 a0 a1 true).bind fun t131 => (if 0 ≤ a1 then (if a1 ≤ t131 then (if t131 ≤ (a0.size : Int) then (if (wrap64 (t131 - a1)) > 255 then (some (0, (⟨#[]⟩ : ByteArray), 0, 0)) else (some (2, a0.extract (a1 : Int).toNat (t131 : Int).toNat, a1, t131))) else (none)) else (none)) else (none))) = some (r1, r2, r3, r4) := by rw [if_pos rfl] at H; exact H
                clear H
                have H := H1
                clear H1
                replace H := Option.bind_eq_some_iff.mp H
                obtain ⟨t131, A180, H⟩ := H
                replace H : (if 0 ≤ a1 then (if a1 ≤ t131 then (if t131 ≤ (a0.size : Int) then (if (wrap64 (t131 - a1)) > 255 then (some (0, (⟨#[]⟩ : ByteArray), 0, 0)) else (some (2, a0.extract (a1 : Int).toNat (t131 : Int).toNat, a1, t131))) else (none)) else (none)) else (none)) = some (r1, r2, r3, r4) := H
                have A18 := Aside0.mk A180
                clear A180
                by_cases c19 : 0 ≤ a1
                · rw [if_pos c19] at H
                  have c19b0 := eq_true c19
                  have c19b1 : decide (0 ≤ a1) = true := decide_eq_true c19
                  clear c19
                  by_cases c20 : a1 ≤ t131
                  · rw [if_pos c20] at H
                    have c20b0 := eq_true c20
                    have c20b1 : decide (a1 ≤ t131) = true := decide_eq_true c20
                    clear c20
                    by_cases c21 : t131 ≤ (a0.size : Int)
                    · rw [if_pos c21] at H
                      have c21b0 := eq_true c21
                      have c21b1 : decide (t131 ≤ (a0.size : Int)) = true := decide_eq_true c21
                      clear c21
                      by_cases c22 : (wrap64 (t131 - a1)) > 255
                      · rw [if_pos c22] at H
                        have c22b0 : decide (255 < (wrap64 (t131 - a1))) = true := decide_eq_true c22
                        clear c22
                        simp only [Option.some.injEq, Prod.mk.injEq] at H
                        obtain ⟨rfl, rfl, rfl, rfl⟩ := H
                        go_wp2_with (first | ((with_reducible refine gate_callee (f := 46) rfl ?_); refine goesL_ (some 29) rfl rfl Try.func46 (by kernel_rfl) rfl #[.string a0, .int .i64 a1, .bool true] rfl (by (try simp only [List.map_toArray, List.map_cons, List.map_nil]); first | done | rfl | (simp only [List.length_drop, List.length_take]; rfl)) ?_; (with_reducible refine (temporef23_run.calls kj8 a0 a1 true t131 _ A18.out).mono ?_); rintro e w' ⟨rfl, ⟨nd, rfl⟩⟩; refine ⟨_, rfl, ?_⟩; (try (rw [drewN_self wc]; generalize hq_ : World.drewN wc _ = wc; have n0_ : Aside0 (wc.heap[gb127]? = some (.cells #[.int .i64 0, .string (⟨#[]⟩ : ByteArray), .int .i64 0] 52 (0, 0))) := ⟨by rw [← hq_]; exact (by (with_reducible repeat (first | refine blk_drewN ?_ _ | refine blk_drew ?_ | refine blk_alloc ?_ _)); exact BK127.out)⟩; have n1_ : Aside0 (wc.heap[gb128]? = some (.cells #[.int .i64 0, .string (a0.extract (a1 : Int).toNat ((wrap64 (a1 + 1)) : Int).toNat), .int .i64 a1] 52 (0, 0))) := ⟨by rw [← hq_]; exact (by (with_reducible repeat (first | refine blk_drewN ?_ _ | refine blk_drew ?_ | refine blk_alloc ?_ _)); exact BK128.out)⟩; have n2_ : Aside0 (Below w.heap.size w wc) := ⟨by rw [← hq_]; exact (by repeat (first | (with_reducible first | exact HB.out | apply below_alloc | apply pw_below_drewN | apply below_drew1 | refine below_set ?_ GE127.out | refine below_set ?_ GE128.out) | exact HB.out))⟩; clear BK127 BK128 HB hq_; have BK127 := n0_; have BK128 := n1_; have HB := n2_; clear n0_ n1_ n2_)); have hnb23 := NB128_127.out; have hnc23 := NB127_128.out; have hcz24_0 : wc.cell? ⟨gb128, 0, none⟩ = some (.int .i64 0) := (blk_cell BK128.out 0).trans rfl; have hcz24_1 : wc.cell? ⟨gb128, 1, none⟩ = some (.string (a0.extract (a1 : Int).toNat ((wrap64 (a1 + 1)) : Int).toNat)) := (blk_cell BK128.out 1).trans rfl; have hcz24_2 : wc.cell? ⟨gb128, 2, none⟩ = some (.int .i64 a1) := (blk_cell BK128.out 2).trans rfl; have hfz24_0 := blk_frozen BK128.out 0; have hfz24_1 := blk_frozen BK128.out 1; have hfz24_2 := blk_frozen BK128.out 2; have hcz25_0 : wc.cell? ⟨gb127, 0, none⟩ = some (.int .i64 0) := (blk_cell BK127.out 0).trans rfl; have hcz25_1 : wc.cell? ⟨gb127, 1, none⟩ = some (.string (⟨#[]⟩ : ByteArray)) := (blk_cell BK127.out 1).trans rfl; have hcz25_2 : wc.cell? ⟨gb127, 2, none⟩ = some (.int .i64 0) := (blk_cell BK127.out 2).trans rfl; have hfz25_0 := blk_frozen BK127.out 0; have hfz25_1 := blk_frozen BK127.out 1; have hfz25_2 := blk_frozen BK127.out 2))
                        refine bodyPost_ret (results_ct rfl _ _ gb127 52 #[.int .i64 0, .string (⟨#[]⟩ : ByteArray), .int .i64 0] (0, 0) _ rfl (by (with_reducible repeat (first | refine blk_drewN ?_ _ | refine blk_drew ?_ | refine blk_alloc ?_ _)); refine blk_put (cs := #[.int .i64 0, .string (⟨#[]⟩ : ByteArray), .int .i64 0]) ?_ 2 _ rfl; (with_reducible repeat (first | refine blk_drewN ?_ _ | refine blk_drew ?_ | refine blk_alloc ?_ _)); refine blk_put (cs := #[.int .i64 0, .string (⟨#[]⟩ : ByteArray), .int .i64 0]) ?_ 1 _ rfl; (with_reducible repeat (first | refine blk_drewN ?_ _ | refine blk_drew ?_ | refine blk_alloc ?_ _)); refine blk_put (cs := #[.int .i64 0, .string (⟨#[]⟩ : ByteArray), .int .i64 0]) ?_ 0 _ rfl; (with_reducible repeat (first | refine blk_drewN ?_ _ | refine blk_drew ?_ | refine blk_alloc ?_ _)); refine blk_far ?_ NB127_128.out _; (with_reducible repeat (first | refine blk_drewN ?_ _ | refine blk_drew ?_ | refine blk_alloc ?_ _)); refine blk_far ?_ NB127_128.out _; (with_reducible repeat (first | refine blk_drewN ?_ _ | refine blk_drew ?_ | refine blk_alloc ?_ _)); exact BK127.out) Try.underlying52 rfl (by kernel_rfl)) rfl ?_
                        exact ⟨by first | rfl | (simp [errW_none, errW_some] <;> rfl) | (simp [*, errW_none, errW_some] <;> rfl), by repeat (first | (with_reducible first | exact HB.out | apply below_alloc | apply pw_below_drewN | apply below_drew1 | refine below_set ?_ GE127.out | refine below_set ?_ GE128.out) | exact HB.out)⟩
                      · rw [if_neg c22] at H
                        have c22b0 : decide (255 < (wrap64 (t131 - a1))) = false := decide_eq_false c22
                        clear c22
                        simp only [Option.some.injEq, Prod.mk.injEq] at H
                        obtain ⟨rfl, rfl, rfl, rfl⟩ := H
                        go_wp2_with (first | ((with_reducible refine gate_callee (f := 46) rfl ?_); refine goesL_ (some 29) rfl rfl Try.func46 (by kernel_rfl) rfl #[.string a0, .int .i64 a1, .bool true] rfl (by (try simp only [List.map_toArray, List.map_cons, List.map_nil]); first | done | rfl | (simp only [List.length_drop, List.length_take]; rfl)) ?_; (with_reducible refine (temporef23_run.calls kj8 a0 a1 true t131 _ A18.out).mono ?_); rintro e w' ⟨rfl, ⟨nd, rfl⟩⟩; refine ⟨_, rfl, ?_⟩; (try (rw [drewN_self wc]; generalize hq_ : World.drewN wc _ = wc; have n0_ : Aside0 (wc.heap[gb127]? = some (.cells #[.int .i64 0, .string (⟨#[]⟩ : ByteArray), .int .i64 0] 52 (0, 0))) := ⟨by rw [← hq_]; exact (by (with_reducible repeat (first | refine blk_drewN ?_ _ | refine blk_drew ?_ | refine blk_alloc ?_ _)); exact BK127.out)⟩; have n1_ : Aside0 (wc.heap[gb128]? = some (.cells #[.int .i64 0, .string (a0.extract (a1 : Int).toNat ((wrap64 (a1 + 1)) : Int).toNat), .int .i64 a1] 52 (0, 0))) := ⟨by rw [← hq_]; exact (by (with_reducible repeat (first | refine blk_drewN ?_ _ | refine blk_drew ?_ | refine blk_alloc ?_ _)); exact BK128.out)⟩; have n2_ : Aside0 (Below w.heap.size w wc) := ⟨by rw [← hq_]; exact (by repeat (first | (with_reducible first | exact HB.out | apply below_alloc | apply pw_below_drewN | apply below_drew1 | refine below_set ?_ GE127.out | refine below_set ?_ GE128.out) | exact HB.out))⟩; clear BK127 BK128 HB hq_; have BK127 := n0_; have BK128 := n1_; have HB := n2_; clear n0_ n1_ n2_)); have hnb26 := NB128_127.out; have hnc26 := NB127_128.out; have hcz27_0 : wc.cell? ⟨gb128, 0, none⟩ = some (.int .i64 0) := (blk_cell BK128.out 0).trans rfl; have hcz27_1 : wc.cell? ⟨gb128, 1, none⟩ = some (.string (a0.extract (a1 : Int).toNat ((wrap64 (a1 + 1)) : Int).toNat)) := (blk_cell BK128.out 1).trans rfl; have hcz27_2 : wc.cell? ⟨gb128, 2, none⟩ = some (.int .i64 a1) := (blk_cell BK128.out 2).trans rfl; have hfz27_0 := blk_frozen BK128.out 0; have hfz27_1 := blk_frozen BK128.out 1; have hfz27_2 := blk_frozen BK128.out 2; have hcz28_0 : wc.cell? ⟨gb127, 0, none⟩ = some (.int .i64 0) := (blk_cell BK127.out 0).trans rfl; have hcz28_1 : wc.cell? ⟨gb127, 1, none⟩ = some (.string (⟨#[]⟩ : ByteArray)) := (blk_cell BK127.out 1).trans rfl; have hcz28_2 : wc.cell? ⟨gb127, 2, none⟩ = some (.int .i64 0) := (blk_cell BK127.out 2).trans rfl; have hfz28_0 := blk_frozen BK127.out 0; have hfz28_1 := blk_frozen BK127.out 1; have hfz28_2 := blk_frozen BK127.out 2))
                        refine bodyPost_ret (results_ct rfl _ _ gb127 52 #[.int .i64 2, .string (a0.extract (a1 : Int).toNat (t131 : Int).toNat), .int .i64 a1] (0, 0) _ rfl (by (with_reducible repeat (first | refine blk_drewN ?_ _ | refine blk_drew ?_ | refine blk_alloc ?_ _)); refine blk_put (cs := #[.int .i64 2, .string (a0.extract (a1 : Int).toNat (t131 : Int).toNat), .int .i64 0]) ?_ 2 _ rfl; (with_reducible repeat (first | refine blk_drewN ?_ _ | refine blk_drew ?_ | refine blk_alloc ?_ _)); refine blk_put (cs := #[.int .i64 2, .string (⟨#[]⟩ : ByteArray), .int .i64 0]) ?_ 1 _ rfl; (with_reducible repeat (first | refine blk_drewN ?_ _ | refine blk_drew ?_ | refine blk_alloc ?_ _)); refine blk_put (cs := #[.int .i64 0, .string (⟨#[]⟩ : ByteArray), .int .i64 0]) ?_ 0 _ rfl; (with_reducible repeat (first | refine blk_drewN ?_ _ | refine blk_drew ?_ | refine blk_alloc ?_ _)); refine blk_far ?_ NB127_128.out _; (with_reducible repeat (first | refine blk_drewN ?_ _ | refine blk_drew ?_ | refine blk_alloc ?_ _)); refine blk_far ?_ NB127_128.out _; (with_reducible repeat (first | refine blk_drewN ?_ _ | refine blk_drew ?_ | refine blk_alloc ?_ _)); exact BK127.out) Try.underlying52 rfl (by kernel_rfl)) rfl ?_
                        exact ⟨by first | rfl | (simp [errW_none, errW_some] <;> rfl) | (simp [*, errW_none, errW_some] <;> rfl), by repeat (first | (with_reducible first | exact HB.out | apply below_alloc | apply pw_below_drewN | apply below_drew1 | refine below_set ?_ GE127.out | refine below_set ?_ GE128.out) | exact HB.out)⟩
                    · rw [if_neg c21] at H
                      exact absurd H (by simp)
                  · rw [if_neg c20] at H
                    exact absurd H (by simp)
                · rw [if_neg c19] at H
                  exact absurd H (by simp)
              · replace c17 := Bool.eq_false_iff.mpr c17
                subst c17
                have H1 : (if (bt a0 a1) = 34 then ((temporef23_quoted.f kj8 a0 a1).bind fun bt132 => (some (1, bt132.1, a1, bt132.2))) else (if (bt a0 a1) = 36 then ((temporef23_run.f kj8 a0 (wrap64 (a1 + 1)) false).bind fun t134 => (if 0 ≤ (wrap64 (a1 + 1)) then (if (wrap64 (a1 + 1)) ≤ t134 then (if t134 ≤ (a0.size : Int) then (if ((a0.extract ((wrap64 (a1 + 1)) : Int).toNat (t134 : Int).toNat).size : Int) < 1 then (some (0, (⟨#[]⟩ : ByteArray), 0, 0)) else (if ((a0.extract ((wrap64 (a1 + 1)) : Int).toNat (t134 : Int).toNat).size : Int) > 3 then (some (0, (⟨#[]⟩ : ByteArray), 0, 0)) else (some (9, a0.extract ((wrap64 (a1 + 1)) : Int).toNat (t134 : Int).toNat, a1, t134)))) else (none)) else (none)) else (none))) else (if (bt a0 a1) = 123 then ((temporef23_until.f kj8 a0 a1 125).bind fun t135 => (if t135 = (a0.size : Int) then (some (0, (⟨#[]⟩ : ByteArray), 0, 0)) else (if 0 ≤ (wrap64 (a1 + 1)) then (if (wrap64 (a1 + 1)) ≤ t135 then (if t135 ≤ (a0.size : Int) then (some (10, a0.extract ((wrap64 (a1 + 1)) : Int).toNat (t135 : Int).toNat, a1, wrap64 (t135 + 1))) else (none)) else (none)) else (none)))) else (if (bt a0 a1) = 59 then ((temporef23_until.f kj8 a0 a1 10).bind fun t136 => (if 0 ≤ (wrap64 (a1 + 1)) then (if (wrap64 (a1 + 1)) ≤ t136 then (if t136 ≤ (a0.size : Int) then (some (10, a0.extract ((wrap64 (a1 + 1)) : Int).toNat (t136 : Int).toNat, a1, t136)) else (none)) else (none)) else (none))) else (if (bt a0 a1) = 33 then (temporef23_token.j1 kj8 a0 a1 (bt a0 a1) ((bt a0 a1) == 33) 0 (a0.extract (a1 : Int).toNat ((wrap64 (a1 + 1)) : Int).toNat) a1) else (temporef23_token.j1 kj8 a0 a1 (bt a0 a1) ((bt a0 a1) == 63) 0 (a0.extract (a1 : Int).toNat ((wrap64 (a1 + 1)) : Int).toNat) a1)))))) = some (r1, r2, r3, r4) := by rw [if_neg (show ¬ (false = true) by decide)] at H; exact H
                clear H
                have H := H1
                clear H1
                by_cases c29 : (bt a0 a1) = 34
                · rw [if_pos c29] at H
                  have c29b0 : ((bt a0 a1) == 34) = true := beq_iff_eq.mpr c29
                  have c29b1 : ((bt a0 a1) != 34) = false := bne_eq_false_iff_eq.mpr c29
                  clear c29
                  replace H := Option.bind_eq_some_iff.mp H
                  obtain ⟨⟨t132, t133⟩, A300, H⟩ := H
                  replace H : (some (1, t132, a1, t133)) = some (r1, r2, r3, r4) := H
                  have A30 := Aside0.mk A300
                  clear A300
                  simp only [Option.some.injEq, Prod.mk.injEq] at H
                  obtain ⟨rfl, rfl, rfl, rfl⟩ := H
                  have hnb31 := NB128_127.out
                  have hnc31 := NB127_128.out
                  have hcz32_0 : wc.cell? ⟨gb128, 0, none⟩ = some (.int .i64 0) := (blk_cell BK128.out 0).trans rfl
                  have hcz32_1 : wc.cell? ⟨gb128, 1, none⟩ = some (.string (a0.extract (a1 : Int).toNat ((wrap64 (a1 + 1)) : Int).toNat)) := (blk_cell BK128.out 1).trans rfl
                  have hcz32_2 : wc.cell? ⟨gb128, 2, none⟩ = some (.int .i64 a1) := (blk_cell BK128.out 2).trans rfl
                  have hfz32_0 := blk_frozen BK128.out 0
                  have hfz32_1 := blk_frozen BK128.out 1
                  have hfz32_2 := blk_frozen BK128.out 2
                  go_wp2_with (first | ((with_reducible refine gate_callee (f := 47) rfl ?_); refine goesL_ (some 50) rfl rfl Try.func47 (by kernel_rfl) rfl #[.string a0, .int .i64 a1] rfl (by (try simp only [List.map_toArray, List.map_cons, List.map_nil]); first | done | rfl | (simp only [List.length_drop, List.length_take]; rfl)) ?_; (with_reducible refine (temporef23_quoted.calls kj8 a0 a1 t132 t133 _ A30.out).mono ?_); rintro e w' ⟨rfl, ⟨nd, rfl⟩⟩; refine ⟨_, rfl, ?_⟩; have hcz33_0 : wc.cell? ⟨gb127, 0, none⟩ = some (.int .i64 0) := (blk_cell BK127.out 0).trans rfl; have hcz33_1 : wc.cell? ⟨gb127, 1, none⟩ = some (.string (⟨#[]⟩ : ByteArray)) := (blk_cell BK127.out 1).trans rfl; have hcz33_2 : wc.cell? ⟨gb127, 2, none⟩ = some (.int .i64 0) := (blk_cell BK127.out 2).trans rfl; have hfz33_0 := blk_frozen BK127.out 0; have hfz33_1 := blk_frozen BK127.out 1; have hfz33_2 := blk_frozen BK127.out 2))
                  refine bodyPost_ret (results_ct rfl _ _ gb127 52 #[.int .i64 1, .string t132, .int .i64 a1] (0, 0) _ rfl (by (with_reducible repeat (first | refine blk_drewN ?_ _ | refine blk_drew ?_ | refine blk_alloc ?_ _)); refine blk_put (cs := #[.int .i64 1, .string t132, .int .i64 0]) ?_ 2 _ rfl; (with_reducible repeat (first | refine blk_drewN ?_ _ | refine blk_drew ?_ | refine blk_alloc ?_ _)); refine blk_put (cs := #[.int .i64 1, .string (⟨#[]⟩ : ByteArray), .int .i64 0]) ?_ 1 _ rfl; (with_reducible repeat (first | refine blk_drewN ?_ _ | refine blk_drew ?_ | refine blk_alloc ?_ _)); refine blk_put (cs := #[.int .i64 0, .string (⟨#[]⟩ : ByteArray), .int .i64 0]) ?_ 0 _ rfl; (with_reducible repeat (first | refine blk_drewN ?_ _ | refine blk_drew ?_ | refine blk_alloc ?_ _)); refine blk_far ?_ NB127_128.out _; (with_reducible repeat (first | refine blk_drewN ?_ _ | refine blk_drew ?_ | refine blk_alloc ?_ _)); refine blk_far ?_ NB127_128.out _; (with_reducible repeat (first | refine blk_drewN ?_ _ | refine blk_drew ?_ | refine blk_alloc ?_ _)); exact BK127.out) Try.underlying52 rfl (by kernel_rfl)) rfl ?_
                  exact ⟨by first | rfl | (simp [errW_none, errW_some] <;> rfl) | (simp [*, errW_none, errW_some] <;> rfl), by repeat (first | (with_reducible first | exact HB.out | apply below_alloc | apply pw_below_drewN | apply below_drew1 | refine below_set ?_ GE127.out | refine below_set ?_ GE128.out) | exact HB.out)⟩
                · rw [if_neg c29] at H
                  have c29b0 : ((bt a0 a1) == 34) = false := beq_eq_false_iff_ne.mpr c29
                  have c29b1 : ((bt a0 a1) != 34) = true := bne_iff_ne.mpr c29
                  by_cases c34 : (bt a0 a1) = 36
                  · rw [if_pos c34] at H
                    have c34b0 : ((bt a0 a1) == 36) = true := beq_iff_eq.mpr c34
                    have c34b1 : ((bt a0 a1) != 36) = false := bne_eq_false_iff_eq.mpr c34
                    clear c34
                    replace H := Option.bind_eq_some_iff.mp H
                    obtain ⟨t134, A350, H⟩ := H
                    replace H : (if 0 ≤ (wrap64 (a1 + 1)) then (if (wrap64 (a1 + 1)) ≤ t134 then (if t134 ≤ (a0.size : Int) then (if ((a0.extract ((wrap64 (a1 + 1)) : Int).toNat (t134 : Int).toNat).size : Int) < 1 then (some (0, (⟨#[]⟩ : ByteArray), 0, 0)) else (if ((a0.extract ((wrap64 (a1 + 1)) : Int).toNat (t134 : Int).toNat).size : Int) > 3 then (some (0, (⟨#[]⟩ : ByteArray), 0, 0)) else (some (9, a0.extract ((wrap64 (a1 + 1)) : Int).toNat (t134 : Int).toNat, a1, t134)))) else (none)) else (none)) else (none)) = some (r1, r2, r3, r4) := H
                    have A35 := Aside0.mk A350
                    clear A350
                    obtain ⟨ji36, hji36⟩ : ∃ j_ : Int, (wrap64 (a1 + 1)) = j_ := ⟨_, rfl⟩
                    replace H : (if 0 ≤ (ji36) then (if (ji36) ≤ t134 then (if t134 ≤ (a0.size : Int) then (if ((a0.extract ((ji36) : Int).toNat (t134 : Int).toNat).size : Int) < 1 then (some (0, (⟨#[]⟩ : ByteArray), 0, 0)) else (if ((a0.extract ((ji36) : Int).toNat (t134 : Int).toNat).size : Int) > 3 then (some (0, (⟨#[]⟩ : ByteArray), 0, 0)) else (some (9, a0.extract ((ji36) : Int).toNat (t134 : Int).toNat, a1, t134)))) else (none)) else (none)) else (none)) = some (r1, r2, r3, r4) := by first | (rw [hji36] at H; exact H) | (simp only [hji36] at H ⊢; exact H)
                    (try rw [hji36] at c7b0)
                    (try rw [hji36] at c7b1)
                    (try rw [hji36] at c7)
                    (try rw [hji36] at c8b0)
                    (try rw [hji36] at c8b1)
                    (try rw [hji36] at c8)
                    (try rw [hji36] at A35)
                    have hji36w : (IntKind.i64.wrap (a1 + 1)) = ji36 := (i64_w _).trans hji36
                    (try rw [hji36] at BK127)
                    (try rw [hji36] at BK128)
                    by_cases c37 : 0 ≤ (ji36)
                    · rw [if_pos c37] at H
                      have c37b0 := eq_true c37
                      have c37b1 : decide (0 ≤ (ji36)) = true := decide_eq_true c37
                      clear c37
                      by_cases c38 : (ji36) ≤ t134
                      · rw [if_pos c38] at H
                        have c38b0 := eq_true c38
                        have c38b1 : decide ((ji36) ≤ t134) = true := decide_eq_true c38
                        clear c38
                        by_cases c39 : t134 ≤ (a0.size : Int)
                        · rw [if_pos c39] at H
                          have c39b0 := eq_true c39
                          have c39b1 : decide (t134 ≤ (a0.size : Int)) = true := decide_eq_true c39
                          clear c39
                          by_cases c40 : ((a0.extract ((ji36) : Int).toNat (t134 : Int).toNat).size : Int) < 1
                          · rw [if_pos c40] at H
                            have c40b0 : decide (((a0.extract ((ji36) : Int).toNat (t134 : Int).toNat).size : Int) < 1) = true := decide_eq_true c40
                            have c40x : (((t134 : Int).toNat - (ji36 : Int).toNat : Nat) : Int) < 1 := by have h_ := of_decide_eq_true c40b0; rw [ByteArray.size_extract] at h_; have h2_ : t134 ≤ (a0.size : Int) := of_decide_eq_true (by assumption); omega
                            have c40b1 : decide ((a0.extract ((ji36) : Int).toNat (t134 : Int).toNat).size < 1) = true := decide_eq_true (by omega)
                            clear c40
                            simp only [Option.some.injEq, Prod.mk.injEq] at H
                            obtain ⟨rfl, rfl, rfl, rfl⟩ := H
                            go_wp2_with (first | ((with_reducible refine gate_callee (f := 46) rfl ?_); refine goesL_ (some 61) rfl rfl Try.func46 (by kernel_rfl) rfl #[.string a0, .int .i64 ji36, .bool false] rfl (by (try simp only [List.map_toArray, List.map_cons, List.map_nil]); first | done | (simp only [hji36]; rfl) | rfl | (simp only [List.length_drop, List.length_take]; rfl)) ?_; (with_reducible refine (temporef23_run.calls kj8 a0 ji36 false t134 _ A35.out).mono ?_); rintro e w' ⟨rfl, ⟨nd, rfl⟩⟩; refine ⟨_, rfl, ?_⟩; (try (rw [drewN_self wc]; generalize hq_ : World.drewN wc _ = wc; have n0_ : Aside0 (wc.heap[gb127]? = some (.cells #[.int .i64 0, .string (⟨#[]⟩ : ByteArray), .int .i64 0] 52 (0, 0))) := ⟨by rw [← hq_]; exact (by (with_reducible repeat (first | refine blk_drewN ?_ _ | refine blk_drew ?_ | refine blk_alloc ?_ _)); exact BK127.out)⟩; have n1_ : Aside0 (wc.heap[gb128]? = some (.cells #[.int .i64 0, .string (a0.extract (a1 : Int).toNat ((ji36) : Int).toNat), .int .i64 a1] 52 (0, 0))) := ⟨by rw [← hq_]; exact (by (with_reducible repeat (first | refine blk_drewN ?_ _ | refine blk_drew ?_ | refine blk_alloc ?_ _)); exact BK128.out)⟩; have n2_ : Aside0 (Below w.heap.size w wc) := ⟨by rw [← hq_]; exact (by repeat (first | (with_reducible first | exact HB.out | apply below_alloc | apply pw_below_drewN | apply below_drew1 | refine below_set ?_ GE127.out | refine below_set ?_ GE128.out) | exact HB.out))⟩; clear BK127 BK128 HB hq_; have BK127 := n0_; have BK128 := n1_; have HB := n2_; clear n0_ n1_ n2_)); have hnb41 := NB128_127.out; have hnc41 := NB127_128.out; have hcz42_0 : wc.cell? ⟨gb128, 0, none⟩ = some (.int .i64 0) := (blk_cell BK128.out 0).trans rfl; have hcz42_1 : wc.cell? ⟨gb128, 1, none⟩ = some (.string (a0.extract (a1 : Int).toNat ((ji36) : Int).toNat)) := (blk_cell BK128.out 1).trans rfl; have hcz42_2 : wc.cell? ⟨gb128, 2, none⟩ = some (.int .i64 a1) := (blk_cell BK128.out 2).trans rfl; have hfz42_0 := blk_frozen BK128.out 0; have hfz42_1 := blk_frozen BK128.out 1; have hfz42_2 := blk_frozen BK128.out 2; have hcz43_0 : wc.cell? ⟨gb127, 0, none⟩ = some (.int .i64 0) := (blk_cell BK127.out 0).trans rfl; have hcz43_1 : wc.cell? ⟨gb127, 1, none⟩ = some (.string (⟨#[]⟩ : ByteArray)) := (blk_cell BK127.out 1).trans rfl; have hcz43_2 : wc.cell? ⟨gb127, 2, none⟩ = some (.int .i64 0) := (blk_cell BK127.out 2).trans rfl; have hfz43_0 := blk_frozen BK127.out 0; have hfz43_1 := blk_frozen BK127.out 1; have hfz43_2 := blk_frozen BK127.out 2))
                            refine bodyPost_ret (results_ct rfl _ _ gb127 52 #[.int .i64 0, .string (⟨#[]⟩ : ByteArray), .int .i64 0] (0, 0) _ rfl (by (with_reducible repeat (first | refine blk_drewN ?_ _ | refine blk_drew ?_ | refine blk_alloc ?_ _)); refine blk_put (cs := #[.int .i64 0, .string (⟨#[]⟩ : ByteArray), .int .i64 0]) ?_ 2 _ rfl; (with_reducible repeat (first | refine blk_drewN ?_ _ | refine blk_drew ?_ | refine blk_alloc ?_ _)); refine blk_put (cs := #[.int .i64 0, .string (⟨#[]⟩ : ByteArray), .int .i64 0]) ?_ 1 _ rfl; (with_reducible repeat (first | refine blk_drewN ?_ _ | refine blk_drew ?_ | refine blk_alloc ?_ _)); refine blk_put (cs := #[.int .i64 0, .string (⟨#[]⟩ : ByteArray), .int .i64 0]) ?_ 0 _ rfl; (with_reducible repeat (first | refine blk_drewN ?_ _ | refine blk_drew ?_ | refine blk_alloc ?_ _)); refine blk_far ?_ NB127_128.out _; (with_reducible repeat (first | refine blk_drewN ?_ _ | refine blk_drew ?_ | refine blk_alloc ?_ _)); refine blk_far ?_ NB127_128.out _; (with_reducible repeat (first | refine blk_drewN ?_ _ | refine blk_drew ?_ | refine blk_alloc ?_ _)); exact BK127.out) Try.underlying52 rfl (by kernel_rfl)) rfl ?_
                            exact ⟨by first | rfl | (simp [errW_none, errW_some] <;> rfl) | (simp only [← hji36]; first | rfl | (simp [errW_none, errW_some] <;> rfl)) | (simp [*, errW_none, errW_some] <;> rfl), by repeat (first | (with_reducible first | exact HB.out | apply below_alloc | apply pw_below_drewN | apply below_drew1 | refine below_set ?_ GE127.out | refine below_set ?_ GE128.out) | exact HB.out)⟩
                          · rw [if_neg c40] at H
                            have c40b0 : decide (((a0.extract ((ji36) : Int).toNat (t134 : Int).toNat).size : Int) < 1) = false := decide_eq_false c40
                            have c40x : 1 ≤ (((t134 : Int).toNat - (ji36 : Int).toNat : Nat) : Int) := by have h_ := of_decide_eq_false c40b0; rw [ByteArray.size_extract] at h_; have h2_ : t134 ≤ (a0.size : Int) := of_decide_eq_true (by assumption); omega
                            have c40b1 : decide ((a0.extract ((ji36) : Int).toNat (t134 : Int).toNat).size < 1) = false := decide_eq_false (by omega)
                            clear c40
                            by_cases c44 : ((a0.extract ((ji36) : Int).toNat (t134 : Int).toNat).size : Int) > 3
                            · rw [if_pos c44] at H
                              have c44b0 : decide (3 < ((a0.extract ((ji36) : Int).toNat (t134 : Int).toNat).size : Int)) = true := decide_eq_true c44
                              have c44x : 3 < (((t134 : Int).toNat - (ji36 : Int).toNat : Nat) : Int) := by have h_ := of_decide_eq_true c44b0; rw [ByteArray.size_extract] at h_; have h2_ : t134 ≤ (a0.size : Int) := of_decide_eq_true (by assumption); omega
                              have c44b1 : decide (3 < (a0.extract ((ji36) : Int).toNat (t134 : Int).toNat).size) = true := decide_eq_true (by omega)
                              clear c44
                              simp only [Option.some.injEq, Prod.mk.injEq] at H
                              obtain ⟨rfl, rfl, rfl, rfl⟩ := H
                              go_wp2_with (first | ((with_reducible refine gate_callee (f := 46) rfl ?_); refine goesL_ (some 61) rfl rfl Try.func46 (by kernel_rfl) rfl #[.string a0, .int .i64 ji36, .bool false] rfl (by (try simp only [List.map_toArray, List.map_cons, List.map_nil]); first | done | (simp only [hji36]; rfl) | rfl | (simp only [List.length_drop, List.length_take]; rfl)) ?_; (with_reducible refine (temporef23_run.calls kj8 a0 ji36 false t134 _ A35.out).mono ?_); rintro e w' ⟨rfl, ⟨nd, rfl⟩⟩; refine ⟨_, rfl, ?_⟩; (try (rw [drewN_self wc]; generalize hq_ : World.drewN wc _ = wc; have n0_ : Aside0 (wc.heap[gb127]? = some (.cells #[.int .i64 0, .string (⟨#[]⟩ : ByteArray), .int .i64 0] 52 (0, 0))) := ⟨by rw [← hq_]; exact (by (with_reducible repeat (first | refine blk_drewN ?_ _ | refine blk_drew ?_ | refine blk_alloc ?_ _)); exact BK127.out)⟩; have n1_ : Aside0 (wc.heap[gb128]? = some (.cells #[.int .i64 0, .string (a0.extract (a1 : Int).toNat ((ji36) : Int).toNat), .int .i64 a1] 52 (0, 0))) := ⟨by rw [← hq_]; exact (by (with_reducible repeat (first | refine blk_drewN ?_ _ | refine blk_drew ?_ | refine blk_alloc ?_ _)); exact BK128.out)⟩; have n2_ : Aside0 (Below w.heap.size w wc) := ⟨by rw [← hq_]; exact (by repeat (first | (with_reducible first | exact HB.out | apply below_alloc | apply pw_below_drewN | apply below_drew1 | refine below_set ?_ GE127.out | refine below_set ?_ GE128.out) | exact HB.out))⟩; clear BK127 BK128 HB hq_; have BK127 := n0_; have BK128 := n1_; have HB := n2_; clear n0_ n1_ n2_)); have hnb45 := NB128_127.out; have hnc45 := NB127_128.out; have hcz46_0 : wc.cell? ⟨gb128, 0, none⟩ = some (.int .i64 0) := (blk_cell BK128.out 0).trans rfl; have hcz46_1 : wc.cell? ⟨gb128, 1, none⟩ = some (.string (a0.extract (a1 : Int).toNat ((ji36) : Int).toNat)) := (blk_cell BK128.out 1).trans rfl; have hcz46_2 : wc.cell? ⟨gb128, 2, none⟩ = some (.int .i64 a1) := (blk_cell BK128.out 2).trans rfl; have hfz46_0 := blk_frozen BK128.out 0; have hfz46_1 := blk_frozen BK128.out 1; have hfz46_2 := blk_frozen BK128.out 2; have hcz47_0 : wc.cell? ⟨gb127, 0, none⟩ = some (.int .i64 0) := (blk_cell BK127.out 0).trans rfl; have hcz47_1 : wc.cell? ⟨gb127, 1, none⟩ = some (.string (⟨#[]⟩ : ByteArray)) := (blk_cell BK127.out 1).trans rfl; have hcz47_2 : wc.cell? ⟨gb127, 2, none⟩ = some (.int .i64 0) := (blk_cell BK127.out 2).trans rfl; have hfz47_0 := blk_frozen BK127.out 0; have hfz47_1 := blk_frozen BK127.out 1; have hfz47_2 := blk_frozen BK127.out 2))
                              refine bodyPost_ret (results_ct rfl _ _ gb127 52 #[.int .i64 0, .string (⟨#[]⟩ : ByteArray), .int .i64 0] (0, 0) _ rfl (by (with_reducible repeat (first | refine blk_drewN ?_ _ | refine blk_drew ?_ | refine blk_alloc ?_ _)); refine blk_put (cs := #[.int .i64 0, .string (⟨#[]⟩ : ByteArray), .int .i64 0]) ?_ 2 _ rfl; (with_reducible repeat (first | refine blk_drewN ?_ _ | refine blk_drew ?_ | refine blk_alloc ?_ _)); refine blk_put (cs := #[.int .i64 0, .string (⟨#[]⟩ : ByteArray), .int .i64 0]) ?_ 1 _ rfl; (with_reducible repeat (first | refine blk_drewN ?_ _ | refine blk_drew ?_ | refine blk_alloc ?_ _)); refine blk_put (cs := #[.int .i64 0, .string (⟨#[]⟩ : ByteArray), .int .i64 0]) ?_ 0 _ rfl; (with_reducible repeat (first | refine blk_drewN ?_ _ | refine blk_drew ?_ | refine blk_alloc ?_ _)); refine blk_far ?_ NB127_128.out _; (with_reducible repeat (first | refine blk_drewN ?_ _ | refine blk_drew ?_ | refine blk_alloc ?_ _)); refine blk_far ?_ NB127_128.out _; (with_reducible repeat (first | refine blk_drewN ?_ _ | refine blk_drew ?_ | refine blk_alloc ?_ _)); exact BK127.out) Try.underlying52 rfl (by kernel_rfl)) rfl ?_
                              exact ⟨by first | rfl | (simp [errW_none, errW_some] <;> rfl) | (simp only [← hji36]; first | rfl | (simp [errW_none, errW_some] <;> rfl)) | (simp [*, errW_none, errW_some] <;> rfl), by repeat (first | (with_reducible first | exact HB.out | apply below_alloc | apply pw_below_drewN | apply below_drew1 | refine below_set ?_ GE127.out | refine below_set ?_ GE128.out) | exact HB.out)⟩
                            · rw [if_neg c44] at H
                              have c44b0 : decide (3 < ((a0.extract ((ji36) : Int).toNat (t134 : Int).toNat).size : Int)) = false := decide_eq_false c44
                              have c44x : (((t134 : Int).toNat - (ji36 : Int).toNat : Nat) : Int) ≤ 3 := by have h_ := of_decide_eq_false c44b0; rw [ByteArray.size_extract] at h_; have h2_ : t134 ≤ (a0.size : Int) := of_decide_eq_true (by assumption); omega
                              have c44b1 : decide (3 < (a0.extract ((ji36) : Int).toNat (t134 : Int).toNat).size) = false := decide_eq_false (by omega)
                              clear c44
                              simp only [Option.some.injEq, Prod.mk.injEq] at H
                              obtain ⟨rfl, rfl, rfl, rfl⟩ := H
                              go_wp2_with (first | ((with_reducible refine gate_callee (f := 46) rfl ?_); refine goesL_ (some 61) rfl rfl Try.func46 (by kernel_rfl) rfl #[.string a0, .int .i64 ji36, .bool false] rfl (by (try simp only [List.map_toArray, List.map_cons, List.map_nil]); first | done | (simp only [hji36]; rfl) | rfl | (simp only [List.length_drop, List.length_take]; rfl)) ?_; (with_reducible refine (temporef23_run.calls kj8 a0 ji36 false t134 _ A35.out).mono ?_); rintro e w' ⟨rfl, ⟨nd, rfl⟩⟩; refine ⟨_, rfl, ?_⟩; (try (rw [drewN_self wc]; generalize hq_ : World.drewN wc _ = wc; have n0_ : Aside0 (wc.heap[gb127]? = some (.cells #[.int .i64 0, .string (⟨#[]⟩ : ByteArray), .int .i64 0] 52 (0, 0))) := ⟨by rw [← hq_]; exact (by (with_reducible repeat (first | refine blk_drewN ?_ _ | refine blk_drew ?_ | refine blk_alloc ?_ _)); exact BK127.out)⟩; have n1_ : Aside0 (wc.heap[gb128]? = some (.cells #[.int .i64 0, .string (a0.extract (a1 : Int).toNat ((ji36) : Int).toNat), .int .i64 a1] 52 (0, 0))) := ⟨by rw [← hq_]; exact (by (with_reducible repeat (first | refine blk_drewN ?_ _ | refine blk_drew ?_ | refine blk_alloc ?_ _)); exact BK128.out)⟩; have n2_ : Aside0 (Below w.heap.size w wc) := ⟨by rw [← hq_]; exact (by repeat (first | (with_reducible first | exact HB.out | apply below_alloc | apply pw_below_drewN | apply below_drew1 | refine below_set ?_ GE127.out | refine below_set ?_ GE128.out) | exact HB.out))⟩; clear BK127 BK128 HB hq_; have BK127 := n0_; have BK128 := n1_; have HB := n2_; clear n0_ n1_ n2_)); have hnb48 := NB128_127.out; have hnc48 := NB127_128.out; have hcz49_0 : wc.cell? ⟨gb128, 0, none⟩ = some (.int .i64 0) := (blk_cell BK128.out 0).trans rfl; have hcz49_1 : wc.cell? ⟨gb128, 1, none⟩ = some (.string (a0.extract (a1 : Int).toNat ((ji36) : Int).toNat)) := (blk_cell BK128.out 1).trans rfl; have hcz49_2 : wc.cell? ⟨gb128, 2, none⟩ = some (.int .i64 a1) := (blk_cell BK128.out 2).trans rfl; have hfz49_0 := blk_frozen BK128.out 0; have hfz49_1 := blk_frozen BK128.out 1; have hfz49_2 := blk_frozen BK128.out 2; have hcz50_0 : wc.cell? ⟨gb127, 0, none⟩ = some (.int .i64 0) := (blk_cell BK127.out 0).trans rfl; have hcz50_1 : wc.cell? ⟨gb127, 1, none⟩ = some (.string (⟨#[]⟩ : ByteArray)) := (blk_cell BK127.out 1).trans rfl; have hcz50_2 : wc.cell? ⟨gb127, 2, none⟩ = some (.int .i64 0) := (blk_cell BK127.out 2).trans rfl; have hfz50_0 := blk_frozen BK127.out 0; have hfz50_1 := blk_frozen BK127.out 1; have hfz50_2 := blk_frozen BK127.out 2))
                              refine bodyPost_ret (results_ct rfl _ _ gb127 52 #[.int .i64 9, .string (a0.extract ((ji36) : Int).toNat (t134 : Int).toNat), .int .i64 a1] (0, 0) _ rfl (by (with_reducible repeat (first | refine blk_drewN ?_ _ | refine blk_drew ?_ | refine blk_alloc ?_ _)); refine blk_put (cs := #[.int .i64 9, .string (a0.extract ((ji36) : Int).toNat (t134 : Int).toNat), .int .i64 0]) ?_ 2 _ rfl; (with_reducible repeat (first | refine blk_drewN ?_ _ | refine blk_drew ?_ | refine blk_alloc ?_ _)); refine blk_put (cs := #[.int .i64 9, .string (⟨#[]⟩ : ByteArray), .int .i64 0]) ?_ 1 _ rfl; (with_reducible repeat (first | refine blk_drewN ?_ _ | refine blk_drew ?_ | refine blk_alloc ?_ _)); refine blk_put (cs := #[.int .i64 0, .string (⟨#[]⟩ : ByteArray), .int .i64 0]) ?_ 0 _ rfl; (with_reducible repeat (first | refine blk_drewN ?_ _ | refine blk_drew ?_ | refine blk_alloc ?_ _)); refine blk_far ?_ NB127_128.out _; (with_reducible repeat (first | refine blk_drewN ?_ _ | refine blk_drew ?_ | refine blk_alloc ?_ _)); refine blk_far ?_ NB127_128.out _; (with_reducible repeat (first | refine blk_drewN ?_ _ | refine blk_drew ?_ | refine blk_alloc ?_ _)); exact BK127.out) Try.underlying52 rfl (by kernel_rfl)) rfl ?_
                              exact ⟨by first | rfl | (simp [errW_none, errW_some] <;> rfl) | (simp only [← hji36]; first | rfl | (simp [errW_none, errW_some] <;> rfl)) | (simp [*, errW_none, errW_some] <;> rfl), by repeat (first | (with_reducible first | exact HB.out | apply below_alloc | apply pw_below_drewN | apply below_drew1 | refine below_set ?_ GE127.out | refine below_set ?_ GE128.out) | exact HB.out)⟩
                        · rw [if_neg c39] at H
                          exact absurd H (by simp)
                      · rw [if_neg c38] at H
                        exact absurd H (by simp)
                    · rw [if_neg c37] at H
                      exact absurd H (by simp)
                  · rw [if_neg c34] at H
                    have c34b0 : ((bt a0 a1) == 36) = false := beq_eq_false_iff_ne.mpr c34
                    have c34b1 : ((bt a0 a1) != 36) = true := bne_iff_ne.mpr c34
                    by_cases c51 : (bt a0 a1) = 123
                    · rw [if_pos c51] at H
                      have c51b0 : ((bt a0 a1) == 123) = true := beq_iff_eq.mpr c51
                      have c51b1 : ((bt a0 a1) != 123) = false := bne_eq_false_iff_eq.mpr c51
                      clear c51
                      replace H := Option.bind_eq_some_iff.mp H
                      obtain ⟨t135, A520, H⟩ := H
                      replace H : (if t135 = (a0.size : Int) then (some (0, (⟨#[]⟩ : ByteArray), 0, 0)) else (if 0 ≤ (wrap64 (a1 + 1)) then (if (wrap64 (a1 + 1)) ≤ t135 then (if t135 ≤ (a0.size : Int) then (some (10, a0.extract ((wrap64 (a1 + 1)) : Int).toNat (t135 : Int).toNat, a1, wrap64 (t135 + 1))) else (none)) else (none)) else (none))) = some (r1, r2, r3, r4) := H
                      have A52 := Aside0.mk A520
                      clear A520
                      by_cases c53 : t135 = (a0.size : Int)
                      · rw [if_pos c53] at H
                        have c53b0 : (t135 == (a0.size : Int)) = true := beq_iff_eq.mpr c53
                        have c53b1 : (t135 != (a0.size : Int)) = false := bne_eq_false_iff_eq.mpr c53
                        clear c53
                        simp only [Option.some.injEq, Prod.mk.injEq] at H
                        obtain ⟨rfl, rfl, rfl, rfl⟩ := H
                        go_wp2_with (first | ((with_reducible refine gate_callee (f := 35) rfl ?_); refine goesL_ (some 86) rfl rfl Try.func35 (by kernel_rfl) rfl #[.string a0, .int .i64 a1, .int .u8 125] rfl (by (try simp only [List.map_toArray, List.map_cons, List.map_nil]); first | done | rfl | (simp only [List.length_drop, List.length_take]; rfl)) ?_; (with_reducible refine (temporef23_until.calls kj8 a0 a1 125 t135 _ A52.out).mono ?_); rintro e w' ⟨rfl, ⟨nd, rfl⟩⟩; refine ⟨_, rfl, ?_⟩; (try (rw [drewN_self wc]; generalize hq_ : World.drewN wc _ = wc; have n0_ : Aside0 (wc.heap[gb127]? = some (.cells #[.int .i64 0, .string (⟨#[]⟩ : ByteArray), .int .i64 0] 52 (0, 0))) := ⟨by rw [← hq_]; exact (by (with_reducible repeat (first | refine blk_drewN ?_ _ | refine blk_drew ?_ | refine blk_alloc ?_ _)); exact BK127.out)⟩; have n1_ : Aside0 (wc.heap[gb128]? = some (.cells #[.int .i64 0, .string (a0.extract (a1 : Int).toNat ((wrap64 (a1 + 1)) : Int).toNat), .int .i64 a1] 52 (0, 0))) := ⟨by rw [← hq_]; exact (by (with_reducible repeat (first | refine blk_drewN ?_ _ | refine blk_drew ?_ | refine blk_alloc ?_ _)); exact BK128.out)⟩; have n2_ : Aside0 (Below w.heap.size w wc) := ⟨by rw [← hq_]; exact (by repeat (first | (with_reducible first | exact HB.out | apply below_alloc | apply pw_below_drewN | apply below_drew1 | refine below_set ?_ GE127.out | refine below_set ?_ GE128.out) | exact HB.out))⟩; clear BK127 BK128 HB hq_; have BK127 := n0_; have BK128 := n1_; have HB := n2_; clear n0_ n1_ n2_)); have hnb54 := NB127_128.out; have hnc54 := NB128_127.out; have hcz55_0 : wc.cell? ⟨gb127, 0, none⟩ = some (.int .i64 0) := (blk_cell BK127.out 0).trans rfl; have hcz55_1 : wc.cell? ⟨gb127, 1, none⟩ = some (.string (⟨#[]⟩ : ByteArray)) := (blk_cell BK127.out 1).trans rfl; have hcz55_2 : wc.cell? ⟨gb127, 2, none⟩ = some (.int .i64 0) := (blk_cell BK127.out 2).trans rfl; have hfz55_0 := blk_frozen BK127.out 0; have hfz55_1 := blk_frozen BK127.out 1; have hfz55_2 := blk_frozen BK127.out 2))
                        refine bodyPost_ret (results_ct rfl _ _ gb127 52 #[.int .i64 0, .string (⟨#[]⟩ : ByteArray), .int .i64 0] (0, 0) _ rfl (by (with_reducible repeat (first | refine blk_drewN ?_ _ | refine blk_drew ?_ | refine blk_alloc ?_ _)); refine blk_put (cs := #[.int .i64 0, .string (⟨#[]⟩ : ByteArray), .int .i64 0]) ?_ 2 _ rfl; (with_reducible repeat (first | refine blk_drewN ?_ _ | refine blk_drew ?_ | refine blk_alloc ?_ _)); refine blk_put (cs := #[.int .i64 0, .string (⟨#[]⟩ : ByteArray), .int .i64 0]) ?_ 1 _ rfl; (with_reducible repeat (first | refine blk_drewN ?_ _ | refine blk_drew ?_ | refine blk_alloc ?_ _)); refine blk_put (cs := #[.int .i64 0, .string (⟨#[]⟩ : ByteArray), .int .i64 0]) ?_ 0 _ rfl; (with_reducible repeat (first | refine blk_drewN ?_ _ | refine blk_drew ?_ | refine blk_alloc ?_ _)); exact BK127.out) Try.underlying52 rfl (by kernel_rfl)) rfl ?_
                        exact ⟨by first | rfl | (simp [errW_none, errW_some] <;> rfl) | (simp [*, errW_none, errW_some] <;> rfl), by repeat (first | (with_reducible first | exact HB.out | apply below_alloc | apply pw_below_drewN | apply below_drew1 | refine below_set ?_ GE127.out | refine below_set ?_ GE128.out) | exact HB.out)⟩
                      · rw [if_neg c53] at H
                        have c53b0 : (t135 == (a0.size : Int)) = false := beq_eq_false_iff_ne.mpr c53
                        have c53b1 : (t135 != (a0.size : Int)) = true := bne_iff_ne.mpr c53
                        obtain ⟨ji56, hji56⟩ : ∃ j_ : Int, (wrap64 (a1 + 1)) = j_ := ⟨_, rfl⟩
                        replace H : (if 0 ≤ (ji56) then (if (ji56) ≤ t135 then (if t135 ≤ (a0.size : Int) then (some (10, a0.extract ((ji56) : Int).toNat (t135 : Int).toNat, a1, wrap64 (t135 + 1))) else (none)) else (none)) else (none)) = some (r1, r2, r3, r4) := by first | (rw [hji56] at H; exact H) | (simp only [hji56] at H ⊢; exact H)
                        (try rw [hji56] at c7b0)
                        (try rw [hji56] at c7b1)
                        (try rw [hji56] at c7)
                        (try rw [hji56] at c8b0)
                        (try rw [hji56] at c8b1)
                        (try rw [hji56] at c8)
                        (try rw [hji56] at A52)
                        have hji56w : (IntKind.i64.wrap (a1 + 1)) = ji56 := (i64_w _).trans hji56
                        (try rw [hji56] at BK127)
                        (try rw [hji56] at BK128)
                        by_cases c57 : 0 ≤ (ji56)
                        · rw [if_pos c57] at H
                          have c57b0 := eq_true c57
                          have c57b1 : decide (0 ≤ (ji56)) = true := decide_eq_true c57
                          clear c57
                          by_cases c58 : (ji56) ≤ t135
                          · rw [if_pos c58] at H
                            have c58b0 := eq_true c58
                            have c58b1 : decide ((ji56) ≤ t135) = true := decide_eq_true c58
                            clear c58
                            by_cases c59 : t135 ≤ (a0.size : Int)
                            · rw [if_pos c59] at H
                              have c59b0 := eq_true c59
                              have c59b1 : decide (t135 ≤ (a0.size : Int)) = true := decide_eq_true c59
                              clear c59
                              simp only [Option.some.injEq, Prod.mk.injEq] at H
                              obtain ⟨rfl, rfl, rfl, rfl⟩ := H
                              go_wp2_with (first | ((with_reducible refine gate_callee (f := 35) rfl ?_); refine goesL_ (some 86) rfl rfl Try.func35 (by kernel_rfl) rfl #[.string a0, .int .i64 a1, .int .u8 125] rfl (by (try simp only [List.map_toArray, List.map_cons, List.map_nil]); first | done | rfl | (simp only [List.length_drop, List.length_take]; rfl)) ?_; (with_reducible refine (temporef23_until.calls kj8 a0 a1 125 t135 _ A52.out).mono ?_); rintro e w' ⟨rfl, ⟨nd, rfl⟩⟩; refine ⟨_, rfl, ?_⟩; (try (rw [drewN_self wc]; generalize hq_ : World.drewN wc _ = wc; have n0_ : Aside0 (wc.heap[gb127]? = some (.cells #[.int .i64 0, .string (⟨#[]⟩ : ByteArray), .int .i64 0] 52 (0, 0))) := ⟨by rw [← hq_]; exact (by (with_reducible repeat (first | refine blk_drewN ?_ _ | refine blk_drew ?_ | refine blk_alloc ?_ _)); exact BK127.out)⟩; have n1_ : Aside0 (wc.heap[gb128]? = some (.cells #[.int .i64 0, .string (a0.extract (a1 : Int).toNat ((ji56) : Int).toNat), .int .i64 a1] 52 (0, 0))) := ⟨by rw [← hq_]; exact (by (with_reducible repeat (first | refine blk_drewN ?_ _ | refine blk_drew ?_ | refine blk_alloc ?_ _)); exact BK128.out)⟩; have n2_ : Aside0 (Below w.heap.size w wc) := ⟨by rw [← hq_]; exact (by repeat (first | (with_reducible first | exact HB.out | apply below_alloc | apply pw_below_drewN | apply below_drew1 | refine below_set ?_ GE127.out | refine below_set ?_ GE128.out) | exact HB.out))⟩; clear BK127 BK128 HB hq_; have BK127 := n0_; have BK128 := n1_; have HB := n2_; clear n0_ n1_ n2_)); have hnb60 := NB128_127.out; have hnc60 := NB127_128.out; have hcz61_0 : wc.cell? ⟨gb128, 0, none⟩ = some (.int .i64 0) := (blk_cell BK128.out 0).trans rfl; have hcz61_1 : wc.cell? ⟨gb128, 1, none⟩ = some (.string (a0.extract (a1 : Int).toNat ((ji56) : Int).toNat)) := (blk_cell BK128.out 1).trans rfl; have hcz61_2 : wc.cell? ⟨gb128, 2, none⟩ = some (.int .i64 a1) := (blk_cell BK128.out 2).trans rfl; have hfz61_0 := blk_frozen BK128.out 0; have hfz61_1 := blk_frozen BK128.out 1; have hfz61_2 := blk_frozen BK128.out 2; have hcz62_0 : wc.cell? ⟨gb127, 0, none⟩ = some (.int .i64 0) := (blk_cell BK127.out 0).trans rfl; have hcz62_1 : wc.cell? ⟨gb127, 1, none⟩ = some (.string (⟨#[]⟩ : ByteArray)) := (blk_cell BK127.out 1).trans rfl; have hcz62_2 : wc.cell? ⟨gb127, 2, none⟩ = some (.int .i64 0) := (blk_cell BK127.out 2).trans rfl; have hfz62_0 := blk_frozen BK127.out 0; have hfz62_1 := blk_frozen BK127.out 1; have hfz62_2 := blk_frozen BK127.out 2))
                              refine bodyPost_ret (results_ct rfl _ _ gb127 52 #[.int .i64 10, .string (a0.extract ((ji56) : Int).toNat (t135 : Int).toNat), .int .i64 a1] (0, 0) _ rfl (by (with_reducible repeat (first | refine blk_drewN ?_ _ | refine blk_drew ?_ | refine blk_alloc ?_ _)); refine blk_put (cs := #[.int .i64 10, .string (a0.extract ((ji56) : Int).toNat (t135 : Int).toNat), .int .i64 0]) ?_ 2 _ rfl; (with_reducible repeat (first | refine blk_drewN ?_ _ | refine blk_drew ?_ | refine blk_alloc ?_ _)); refine blk_put (cs := #[.int .i64 10, .string (⟨#[]⟩ : ByteArray), .int .i64 0]) ?_ 1 _ rfl; (with_reducible repeat (first | refine blk_drewN ?_ _ | refine blk_drew ?_ | refine blk_alloc ?_ _)); refine blk_put (cs := #[.int .i64 0, .string (⟨#[]⟩ : ByteArray), .int .i64 0]) ?_ 0 _ rfl; (with_reducible repeat (first | refine blk_drewN ?_ _ | refine blk_drew ?_ | refine blk_alloc ?_ _)); refine blk_far ?_ NB127_128.out _; (with_reducible repeat (first | refine blk_drewN ?_ _ | refine blk_drew ?_ | refine blk_alloc ?_ _)); refine blk_far ?_ NB127_128.out _; (with_reducible repeat (first | refine blk_drewN ?_ _ | refine blk_drew ?_ | refine blk_alloc ?_ _)); exact BK127.out) Try.underlying52 rfl (by kernel_rfl)) rfl ?_
                              exact ⟨by first | rfl | (simp [errW_none, errW_some] <;> rfl) | (simp only [← hji56]; first | rfl | (simp [errW_none, errW_some] <;> rfl)) | (simp [*, errW_none, errW_some] <;> rfl), by repeat (first | (with_reducible first | exact HB.out | apply below_alloc | apply pw_below_drewN | apply below_drew1 | refine below_set ?_ GE127.out | refine below_set ?_ GE128.out) | exact HB.out)⟩
                            · rw [if_neg c59] at H
                              exact absurd H (by simp)
                          · rw [if_neg c58] at H
                            exact absurd H (by simp)
                        · rw [if_neg c57] at H
                          exact absurd H (by simp)
                    · rw [if_neg c51] at H
                      have c51b0 : ((bt a0 a1) == 123) = false := beq_eq_false_iff_ne.mpr c51
                      have c51b1 : ((bt a0 a1) != 123) = true := bne_iff_ne.mpr c51
                      by_cases c63 : (bt a0 a1) = 59
                      · rw [if_pos c63] at H
                        have c63b0 : ((bt a0 a1) == 59) = true := beq_iff_eq.mpr c63
                        have c63b1 : ((bt a0 a1) != 59) = false := bne_eq_false_iff_eq.mpr c63
                        clear c63
                        replace H := Option.bind_eq_some_iff.mp H
                        obtain ⟨t136, A640, H⟩ := H
                        replace H : (if 0 ≤ (wrap64 (a1 + 1)) then (if (wrap64 (a1 + 1)) ≤ t136 then (if t136 ≤ (a0.size : Int) then (some (10, a0.extract ((wrap64 (a1 + 1)) : Int).toNat (t136 : Int).toNat, a1, t136)) else (none)) else (none)) else (none)) = some (r1, r2, r3, r4) := H
                        have A64 := Aside0.mk A640
                        clear A640
                        obtain ⟨ji65, hji65⟩ : ∃ j_ : Int, (wrap64 (a1 + 1)) = j_ := ⟨_, rfl⟩
                        replace H : (if 0 ≤ (ji65) then (if (ji65) ≤ t136 then (if t136 ≤ (a0.size : Int) then (some (10, a0.extract ((ji65) : Int).toNat (t136 : Int).toNat, a1, t136)) else (none)) else (none)) else (none)) = some (r1, r2, r3, r4) := by first | (rw [hji65] at H; exact H) | (simp only [hji65] at H ⊢; exact H)
                        (try rw [hji65] at c7b0)
                        (try rw [hji65] at c7b1)
                        (try rw [hji65] at c7)
                        (try rw [hji65] at c8b0)
                        (try rw [hji65] at c8b1)
                        (try rw [hji65] at c8)
                        (try rw [hji65] at A64)
                        have hji65w : (IntKind.i64.wrap (a1 + 1)) = ji65 := (i64_w _).trans hji65
                        (try rw [hji65] at BK127)
                        (try rw [hji65] at BK128)
                        by_cases c66 : 0 ≤ (ji65)
                        · rw [if_pos c66] at H
                          have c66b0 := eq_true c66
                          have c66b1 : decide (0 ≤ (ji65)) = true := decide_eq_true c66
                          clear c66
                          by_cases c67 : (ji65) ≤ t136
                          · rw [if_pos c67] at H
                            have c67b0 := eq_true c67
                            have c67b1 : decide ((ji65) ≤ t136) = true := decide_eq_true c67
                            clear c67
                            by_cases c68 : t136 ≤ (a0.size : Int)
                            · rw [if_pos c68] at H
                              have c68b0 := eq_true c68
                              have c68b1 : decide (t136 ≤ (a0.size : Int)) = true := decide_eq_true c68
                              clear c68
                              simp only [Option.some.injEq, Prod.mk.injEq] at H
                              obtain ⟨rfl, rfl, rfl, rfl⟩ := H
                              go_wp2_with (first | ((with_reducible refine gate_callee (f := 35) rfl ?_); refine goesL_ (some 106) rfl rfl Try.func35 (by kernel_rfl) rfl #[.string a0, .int .i64 a1, .int .u8 10] rfl (by (try simp only [List.map_toArray, List.map_cons, List.map_nil]); first | done | rfl | (simp only [List.length_drop, List.length_take]; rfl)) ?_; (with_reducible refine (temporef23_until.calls kj8 a0 a1 10 t136 _ A64.out).mono ?_); rintro e w' ⟨rfl, ⟨nd, rfl⟩⟩; refine ⟨_, rfl, ?_⟩; (try (rw [drewN_self wc]; generalize hq_ : World.drewN wc _ = wc; have n0_ : Aside0 (wc.heap[gb127]? = some (.cells #[.int .i64 0, .string (⟨#[]⟩ : ByteArray), .int .i64 0] 52 (0, 0))) := ⟨by rw [← hq_]; exact (by (with_reducible repeat (first | refine blk_drewN ?_ _ | refine blk_drew ?_ | refine blk_alloc ?_ _)); exact BK127.out)⟩; have n1_ : Aside0 (wc.heap[gb128]? = some (.cells #[.int .i64 0, .string (a0.extract (a1 : Int).toNat ((ji65) : Int).toNat), .int .i64 a1] 52 (0, 0))) := ⟨by rw [← hq_]; exact (by (with_reducible repeat (first | refine blk_drewN ?_ _ | refine blk_drew ?_ | refine blk_alloc ?_ _)); exact BK128.out)⟩; have n2_ : Aside0 (Below w.heap.size w wc) := ⟨by rw [← hq_]; exact (by repeat (first | (with_reducible first | exact HB.out | apply below_alloc | apply pw_below_drewN | apply below_drew1 | refine below_set ?_ GE127.out | refine below_set ?_ GE128.out) | exact HB.out))⟩; clear BK127 BK128 HB hq_; have BK127 := n0_; have BK128 := n1_; have HB := n2_; clear n0_ n1_ n2_)); have hnb69 := NB128_127.out; have hnc69 := NB127_128.out; have hcz70_0 : wc.cell? ⟨gb128, 0, none⟩ = some (.int .i64 0) := (blk_cell BK128.out 0).trans rfl; have hcz70_1 : wc.cell? ⟨gb128, 1, none⟩ = some (.string (a0.extract (a1 : Int).toNat ((ji65) : Int).toNat)) := (blk_cell BK128.out 1).trans rfl; have hcz70_2 : wc.cell? ⟨gb128, 2, none⟩ = some (.int .i64 a1) := (blk_cell BK128.out 2).trans rfl; have hfz70_0 := blk_frozen BK128.out 0; have hfz70_1 := blk_frozen BK128.out 1; have hfz70_2 := blk_frozen BK128.out 2; have hcz71_0 : wc.cell? ⟨gb127, 0, none⟩ = some (.int .i64 0) := (blk_cell BK127.out 0).trans rfl; have hcz71_1 : wc.cell? ⟨gb127, 1, none⟩ = some (.string (⟨#[]⟩ : ByteArray)) := (blk_cell BK127.out 1).trans rfl; have hcz71_2 : wc.cell? ⟨gb127, 2, none⟩ = some (.int .i64 0) := (blk_cell BK127.out 2).trans rfl; have hfz71_0 := blk_frozen BK127.out 0; have hfz71_1 := blk_frozen BK127.out 1; have hfz71_2 := blk_frozen BK127.out 2))
                              refine bodyPost_ret (results_ct rfl _ _ gb127 52 #[.int .i64 10, .string (a0.extract ((ji65) : Int).toNat (t136 : Int).toNat), .int .i64 a1] (0, 0) _ rfl (by (with_reducible repeat (first | refine blk_drewN ?_ _ | refine blk_drew ?_ | refine blk_alloc ?_ _)); refine blk_put (cs := #[.int .i64 10, .string (a0.extract ((ji65) : Int).toNat (t136 : Int).toNat), .int .i64 0]) ?_ 2 _ rfl; (with_reducible repeat (first | refine blk_drewN ?_ _ | refine blk_drew ?_ | refine blk_alloc ?_ _)); refine blk_put (cs := #[.int .i64 10, .string (⟨#[]⟩ : ByteArray), .int .i64 0]) ?_ 1 _ rfl; (with_reducible repeat (first | refine blk_drewN ?_ _ | refine blk_drew ?_ | refine blk_alloc ?_ _)); refine blk_put (cs := #[.int .i64 0, .string (⟨#[]⟩ : ByteArray), .int .i64 0]) ?_ 0 _ rfl; (with_reducible repeat (first | refine blk_drewN ?_ _ | refine blk_drew ?_ | refine blk_alloc ?_ _)); refine blk_far ?_ NB127_128.out _; (with_reducible repeat (first | refine blk_drewN ?_ _ | refine blk_drew ?_ | refine blk_alloc ?_ _)); refine blk_far ?_ NB127_128.out _; (with_reducible repeat (first | refine blk_drewN ?_ _ | refine blk_drew ?_ | refine blk_alloc ?_ _)); exact BK127.out) Try.underlying52 rfl (by kernel_rfl)) rfl ?_
                              exact ⟨by first | rfl | (simp [errW_none, errW_some] <;> rfl) | (simp only [← hji65]; first | rfl | (simp [errW_none, errW_some] <;> rfl)) | (simp [*, errW_none, errW_some] <;> rfl), by repeat (first | (with_reducible first | exact HB.out | apply below_alloc | apply pw_below_drewN | apply below_drew1 | refine below_set ?_ GE127.out | refine below_set ?_ GE128.out) | exact HB.out)⟩
                            · rw [if_neg c68] at H
                              exact absurd H (by simp)
                          · rw [if_neg c67] at H
                            exact absurd H (by simp)
                        · rw [if_neg c66] at H
                          exact absurd H (by simp)
                      · rw [if_neg c63] at H
                        have c63b0 : ((bt a0 a1) == 59) = false := beq_eq_false_iff_ne.mpr c63
                        have c63b1 : ((bt a0 a1) != 59) = true := bne_iff_ne.mpr c63
                        have HC72 := Aside0.mk H
                        clear H
                        go_upto_if 116 with (fail)
                        go_cut [116] (fun v116 wc => ∃ (kq : Nat) (x116_71 : Bool), v116 = .bool x116_71 ∧ Aside0 (temporef23_token.j1 kq a0 a1 (bt a0 a1) x116_71 0 (a0.extract (a1 : Int).toNat ((wrap64 (a1 + 1)) : Int).toNat) a1 = some (r1, r2, r3, r4)) ∧ Aside0 (kq ≤ kj8) ∧ Aside0 (wc.heap[gb127]? = some (.cells #[.int .i64 0, .string (⟨#[]⟩ : ByteArray), .int .i64 0] 52 (0, 0))) ∧ Aside0 (wc.heap[gb128]? = some (.cells #[.int .i64 0, .string (a0.extract (a1 : Int).toNat ((wrap64 (a1 + 1)) : Int).toNat), .int .i64 a1] 52 (0, 0))) ∧ Aside0 (Below w.heap.size w wc))
                        case first =>
                          have H := HC72.out
                          clear HC72
                          by_cases c73 : (bt a0 a1) = 33
                          · rw [if_pos c73] at H
                            have c73b0 : ((bt a0 a1) == 33) = true := beq_iff_eq.mpr c73
                            have c73b1 : ((bt a0 a1) != 33) = false := bne_eq_false_iff_eq.mpr c73
                            clear c73
                            (first | rw [c73b0] | (simp only [i64_w, i32_w]; rw [c73b0]) | skip)
                            have H' := Aside0.mk H
                            clear H
                            go_wp2
                            go_meet
                            case rel => exact ⟨_, (((bt a0 a1) == 33)), (by first | rfl | (simp; done) | (simp [*]; done)), H', ⟨by have := HJ8.out; first | omega | exact Nat.le_refl _⟩, ⟨by (with_reducible repeat (first | refine blk_drewN ?_ _ | refine blk_drew ?_ | refine blk_alloc ?_ _)); exact BK127.out⟩, ⟨by (with_reducible repeat (first | refine blk_drewN ?_ _ | refine blk_drew ?_ | refine blk_alloc ?_ _)); exact BK128.out⟩, ⟨by repeat (first | (with_reducible first | exact HB.out | apply below_alloc | apply pw_below_drewN | apply below_drew1 | refine below_set ?_ GE127.out | refine below_set ?_ GE128.out) | exact HB.out)⟩⟩
                          · rw [if_neg c73] at H
                            have c73b0 : ((bt a0 a1) == 33) = false := beq_eq_false_iff_ne.mpr c73
                            have c73b1 : ((bt a0 a1) != 33) = true := bne_iff_ne.mpr c73
                            (first | rw [c73b0] | (simp only [i64_w, i32_w]; rw [c73b0]) | skip)
                            have H' := Aside0.mk H
                            clear H
                            go_wp2
                            go_meet
                            case rel => exact ⟨_, (((bt a0 a1) == 63)), (by first | rfl | (simp; done) | (simp [*]; done)), H', ⟨by have := HJ8.out; first | omega | exact Nat.le_refl _⟩, ⟨by (with_reducible repeat (first | refine blk_drewN ?_ _ | refine blk_drew ?_ | refine blk_alloc ?_ _)); exact BK127.out⟩, ⟨by (with_reducible repeat (first | refine blk_drewN ?_ _ | refine blk_drew ?_ | refine blk_alloc ?_ _)); exact BK128.out⟩, ⟨by repeat (first | (with_reducible first | exact HB.out | apply below_alloc | apply pw_below_drewN | apply below_drew1 | refine below_set ?_ GE127.out | refine below_set ?_ GE128.out) | exact HB.out)⟩⟩
                        case rest =>
                          clear HC72
                          try clear c1
                          try clear c2
                          try clear p2
                          try clear c3
                          try clear c3b0
                          try clear c4
                          try clear c4b0
                          try clear c5
                          try clear p5
                          try clear q5
                          try clear hx5
                          try clear c6
                          try clear c6b0
                          try clear p6
                          try clear c7
                          try clear c7b0
                          try clear c7b1
                          try clear c8
                          try clear c8b0
                          try clear c8b1
                          try clear c12
                          try clear c15
                          try clear c17
                          try clear c19
                          try clear c19b0
                          try clear c19b1
                          try clear c20
                          try clear c20b0
                          try clear c20b1
                          try clear c21
                          try clear c21b0
                          try clear c21b1
                          try clear c22
                          try clear c22b0
                          try clear c23
                          try clear c26
                          try clear c29
                          try clear c29b0
                          try clear c29b1
                          try clear c31
                          try clear c34
                          try clear c34b0
                          try clear c34b1
                          try clear c35
                          try clear c36
                          try clear c37
                          try clear c37b0
                          try clear c37b1
                          try clear c38
                          try clear c38b0
                          try clear c38b1
                          try clear c39
                          try clear c39b0
                          try clear c39b1
                          try clear c40
                          try clear c40b0
                          try clear c40b1
                          try clear c41
                          try clear c44
                          try clear c44b0
                          try clear c44b1
                          try clear c45
                          try clear c46
                          try clear c47
                          try clear c48
                          try clear c51
                          try clear c51b0
                          try clear c51b1
                          try clear c53
                          try clear c53b0
                          try clear c53b1
                          try clear c54
                          try clear c57
                          try clear c57b0
                          try clear c57b1
                          try clear c58
                          try clear c58b0
                          try clear c58b1
                          try clear c59
                          try clear c59b0
                          try clear c59b1
                          try clear c60
                          try clear c63
                          try clear c63b0
                          try clear c63b1
                          try clear p64
                          try clear c66
                          try clear c66b0
                          try clear c66b1
                          try clear c67
                          try clear c67b0
                          try clear c67b1
                          try clear c68
                          try clear c68b0
                          try clear c68b1
                          try clear c69
                          try clear c73
                          try clear c73b0
                          try clear c73b1
                          try clear hcz13_0
                          try clear hcz13_1
                          try clear hcz13_2
                          try clear hcz24_0
                          try clear hcz24_1
                          try clear hcz24_2
                          try clear hcz25_0
                          try clear hcz25_1
                          try clear hcz25_2
                          try clear hcz27_0
                          try clear hcz27_1
                          try clear hcz27_2
                          try clear hcz28_0
                          try clear hcz28_1
                          try clear hcz28_2
                          try clear hcz32_0
                          try clear hcz32_1
                          try clear hcz32_2
                          try clear hcz33_0
                          try clear hcz33_1
                          try clear hcz33_2
                          try clear hcz42_0
                          try clear hcz42_1
                          try clear hcz42_2
                          try clear hcz43_0
                          try clear hcz43_1
                          try clear hcz43_2
                          try clear hcz46_0
                          try clear hcz46_1
                          try clear hcz46_2
                          try clear hcz47_0
                          try clear hcz47_1
                          try clear hcz47_2
                          try clear hcz49_0
                          try clear hcz49_1
                          try clear hcz49_2
                          try clear hcz50_0
                          try clear hcz50_1
                          try clear hcz50_2
                          try clear hcz55_0
                          try clear hcz55_1
                          try clear hcz55_2
                          try clear hcz61_0
                          try clear hcz61_1
                          try clear hcz61_2
                          try clear hcz62_0
                          try clear hcz62_1
                          try clear hcz62_2
                          try clear hcz70_0
                          try clear hcz70_1
                          try clear hcz70_2
                          try clear hcz71_0
                          try clear hcz71_1
                          try clear hcz71_2
                          try clear hfz13_0
                          try clear hfz13_1
                          try clear hfz13_2
                          try clear hfz24_0
                          try clear hfz24_1
                          try clear hfz24_2
                          try clear hfz25_0
                          try clear hfz25_1
                          try clear hfz25_2
                          try clear hfz27_0
                          try clear hfz27_1
                          try clear hfz27_2
                          try clear hfz28_0
                          try clear hfz28_1
                          try clear hfz28_2
                          try clear hfz32_0
                          try clear hfz32_1
                          try clear hfz32_2
                          try clear hfz33_0
                          try clear hfz33_1
                          try clear hfz33_2
                          try clear hfz42_0
                          try clear hfz42_1
                          try clear hfz42_2
                          try clear hfz43_0
                          try clear hfz43_1
                          try clear hfz43_2
                          try clear hfz46_0
                          try clear hfz46_1
                          try clear hfz46_2
                          try clear hfz47_0
                          try clear hfz47_1
                          try clear hfz47_2
                          try clear hfz49_0
                          try clear hfz49_1
                          try clear hfz49_2
                          try clear hfz50_0
                          try clear hfz50_1
                          try clear hfz50_2
                          try clear hfz55_0
                          try clear hfz55_1
                          try clear hfz55_2
                          try clear hfz61_0
                          try clear hfz61_1
                          try clear hfz61_2
                          try clear hfz62_0
                          try clear hfz62_1
                          try clear hfz62_2
                          try clear hfz70_0
                          try clear hfz70_1
                          try clear hfz70_2
                          try clear hfz71_0
                          try clear hfz71_1
                          try clear hfz71_2
                          try clear p2
                          try clear p5
                          try clear p6
                          try clear q5
                          obtain ⟨kq, x116_71, rfl, HA, HJ71, BK127, BK128, HB⟩ := hcut
                          cases kq with
                          | zero => exact absurd HA.out (by simp [temporef23_token.j1])
                          | succ kj71 =>
                            have H := HA.out
                            clear HA
                            simp only [temporef23_token.j1] at H
                            by_cases c74 : x116_71 = true
                            · subst c74
                              have H1 : (if (wrap64 (a1 + 1)) < (a0.size : Int) then (if 0 ≤ (wrap64 (a1 + 1)) then ((temporef23_in.f kj71 (bt a0 (wrap64 (a1 + 1))) (⟨#[33, 63]⟩ : ByteArray)).bind fun t137 => (if t137 = true then (if 0 ≤ a1 then (if a1 ≤ (wrap64 ((wrap64 (a1 + 1)) + 1)) then (if (wrap64 ((wrap64 (a1 + 1)) + 1)) ≤ (a0.size : Int) then (some (11, a0.extract (a1 : Int).toNat ((wrap64 ((wrap64 (a1 + 1)) + 1)) : Int).toNat, a1, wrap64 ((wrap64 (a1 + 1)) + 1))) else (none)) else (none)) else (none)) else (if 0 ≤ a1 then (if a1 ≤ (wrap64 (a1 + 1)) then (if (wrap64 (a1 + 1)) ≤ (a0.size : Int) then (some (11, a0.extract (a1 : Int).toNat ((wrap64 (a1 + 1)) : Int).toNat, a1, wrap64 (a1 + 1))) else (none)) else (none)) else (none)))) else (none)) else (if 0 ≤ a1 then (if a1 ≤ (wrap64 (a1 + 1)) then (if (wrap64 (a1 + 1)) ≤ (a0.size : Int) then (some (11, a0.extract (a1 : Int).toNat ((wrap64 (a1 + 1)) : Int).toNat, a1, wrap64 (a1 + 1))) else (none)) else (none)) else (none))) = some (r1, r2, r3, r4) := by rw [if_pos rfl] at H; exact H
                              clear H
                              have H := H1
                              clear H1
                              by_cases c75 : (wrap64 (a1 + 1)) < (a0.size : Int)
                              · rw [if_pos c75] at H
                                have c75b0 : decide ((wrap64 (a1 + 1)) < (a0.size : Int)) = true := decide_eq_true c75
                                clear c75
                                obtain ⟨ji76, hji76⟩ : ∃ j_ : Int, (wrap64 (a1 + 1)) = j_ := ⟨_, rfl⟩
                                replace H : (if 0 ≤ (ji76) then ((temporef23_in.f kj71 (bt a0 (ji76)) (⟨#[33, 63]⟩ : ByteArray)).bind fun t137 => (if t137 = true then (if 0 ≤ a1 then (if a1 ≤ (wrap64 ((ji76) + 1)) then (if (wrap64 ((ji76) + 1)) ≤ (a0.size : Int) then (some (11, a0.extract (a1 : Int).toNat ((wrap64 ((ji76) + 1)) : Int).toNat, a1, wrap64 ((ji76) + 1))) else (none)) else (none)) else (none)) else (if 0 ≤ a1 then (if a1 ≤ (ji76) then (if (ji76) ≤ (a0.size : Int) then (some (11, a0.extract (a1 : Int).toNat ((ji76) : Int).toNat, a1, ji76)) else (none)) else (none)) else (none)))) else (none)) = some (r1, r2, r3, r4) := by first | (rw [hji76] at H; exact H) | (simp only [hji76] at H ⊢; exact H)
                                (try rw [hji76] at c7b0)
                                (try rw [hji76] at c7b1)
                                (try rw [hji76] at c7)
                                (try rw [hji76] at c8b0)
                                (try rw [hji76] at c8b1)
                                (try rw [hji76] at c8)
                                (try rw [hji76] at c75b0)
                                have hji76w : (IntKind.i64.wrap (a1 + 1)) = ji76 := (i64_w _).trans hji76
                                (try rw [hji76] at BK127)
                                (try rw [hji76] at BK128)
                                by_cases c77 : 0 ≤ (ji76)
                                · rw [if_pos c77] at H
                                  have c77b0 : decide (0 ≤ (ji76)) = true := decide_eq_true c77
                                  clear c77
                                  replace H := Option.bind_eq_some_iff.mp H
                                  obtain ⟨t137, A790, H⟩ := H
                                  replace H : (if t137 = true then (if 0 ≤ a1 then (if a1 ≤ (wrap64 ((ji76) + 1)) then (if (wrap64 ((ji76) + 1)) ≤ (a0.size : Int) then (some (11, a0.extract (a1 : Int).toNat ((wrap64 ((ji76) + 1)) : Int).toNat, a1, wrap64 ((ji76) + 1))) else (none)) else (none)) else (none)) else (if 0 ≤ a1 then (if a1 ≤ (ji76) then (if (ji76) ≤ (a0.size : Int) then (some (11, a0.extract (a1 : Int).toNat ((ji76) : Int).toNat, a1, ji76)) else (none)) else (none)) else (none))) = some (r1, r2, r3, r4) := H
                                  have A79 := Aside0.mk A790
                                  clear A790
                                  by_cases c80 : t137 = true
                                  · subst c80
                                    have H1 : (if 0 ≤ a1 then (if a1 ≤ (wrap64 ((ji76) + 1)) then (if (wrap64 ((ji76) + 1)) ≤ (a0.size : Int) then (some (11, a0.extract (a1 : Int).toNat ((wrap64 ((ji76) + 1)) : Int).toNat, a1, wrap64 ((ji76) + 1))) else (none)) else (none)) else (none)) = some (r1, r2, r3, r4) := by rw [if_pos rfl] at H; exact H
                                    clear H
                                    have H := H1
                                    clear H1
                                    by_cases c81 : 0 ≤ a1
                                    · rw [if_pos c81] at H
                                      have c81b0 := eq_true c81
                                      have c81b1 : decide (0 ≤ a1) = true := decide_eq_true c81
                                      clear c81
                                      by_cases c82 : a1 ≤ (wrap64 ((ji76) + 1))
                                      · rw [if_pos c82] at H
                                        have c82b0 := eq_true c82
                                        have c82b1 : decide (a1 ≤ (wrap64 ((ji76) + 1))) = true := decide_eq_true c82
                                        by_cases c83 : (wrap64 ((ji76) + 1)) ≤ (a0.size : Int)
                                        · rw [if_pos c83] at H
                                          have c83b0 := eq_true c83
                                          have c83b1 : decide ((wrap64 ((ji76) + 1)) ≤ (a0.size : Int)) = true := decide_eq_true c83
                                          simp only [Option.some.injEq, Prod.mk.injEq] at H
                                          obtain ⟨rfl, rfl, rfl, rfl⟩ := H
                                          have p78 : 0 ≤ ((ji76) : Int) := of_decide_eq_true (by first | (with_reducible assumption) | assumption)
                                          have q78 : (ji76) < (a0.size : Int) := of_decide_eq_true (by first | (with_reducible assumption) | assumption)
                                          have hx78 := bt_at a0 (ji76)
                                          replace p78 := eq_true p78
                                          replace q78 := eq_true q78
                                          go_wp2_with (first | (go_at_call 34; (with_reducible refine (temporef23_in.calls kj71 (bt a0 (ji76)) (⟨#[33, 63]⟩ : ByteArray) true _ A79.out).mono ?_); rintro e w' ⟨rfl, ⟨nd, rfl⟩⟩; (try (rw [drewN_self wc]; generalize hq_ : World.drewN wc _ = wc; have n0_ : Aside0 (wc.heap[gb127]? = some (.cells #[.int .i64 0, .string (⟨#[]⟩ : ByteArray), .int .i64 0] 52 (0, 0))) := ⟨by rw [← hq_]; exact (by (with_reducible repeat (first | refine blk_drewN ?_ _ | refine blk_drew ?_ | refine blk_alloc ?_ _)); exact BK127.out)⟩; have n1_ : Aside0 (wc.heap[gb128]? = some (.cells #[.int .i64 0, .string (a0.extract (a1 : Int).toNat ((ji76) : Int).toNat), .int .i64 a1] 52 (0, 0))) := ⟨by rw [← hq_]; exact (by (with_reducible repeat (first | refine blk_drewN ?_ _ | refine blk_drew ?_ | refine blk_alloc ?_ _)); exact BK128.out)⟩; have n2_ : Aside0 (Below w.heap.size w wc) := ⟨by rw [← hq_]; exact (by repeat (first | (with_reducible first | exact HB.out | apply below_alloc | apply pw_below_drewN | apply below_drew1 | refine below_set ?_ GE127.out | refine below_set ?_ GE128.out) | exact HB.out))⟩; clear BK127 BK128 HB hq_; have BK127 := n0_; have BK128 := n1_; have HB := n2_; clear n0_ n1_ n2_)); have hnb84 := NB128_127.out; have hnc84 := NB127_128.out; have hcz85_0 : wc.cell? ⟨gb128, 0, none⟩ = some (.int .i64 0) := (blk_cell BK128.out 0).trans rfl; have hcz85_1 : wc.cell? ⟨gb128, 1, none⟩ = some (.string (a0.extract (a1 : Int).toNat ((ji76) : Int).toNat)) := (blk_cell BK128.out 1).trans rfl; have hcz85_2 : wc.cell? ⟨gb128, 2, none⟩ = some (.int .i64 a1) := (blk_cell BK128.out 2).trans rfl; have hfz85_0 := blk_frozen BK128.out 0; have hfz85_1 := blk_frozen BK128.out 1; have hfz85_2 := blk_frozen BK128.out 2; have hcz86_0 : wc.cell? ⟨gb127, 0, none⟩ = some (.int .i64 0) := (blk_cell BK127.out 0).trans rfl; have hcz86_1 : wc.cell? ⟨gb127, 1, none⟩ = some (.string (⟨#[]⟩ : ByteArray)) := (blk_cell BK127.out 1).trans rfl; have hcz86_2 : wc.cell? ⟨gb127, 2, none⟩ = some (.int .i64 0) := (blk_cell BK127.out 2).trans rfl; have hfz86_0 := blk_frozen BK127.out 0; have hfz86_1 := blk_frozen BK127.out 1; have hfz86_2 := blk_frozen BK127.out 2))
                                          refine bodyPost_ret (results_ct rfl _ _ gb127 52 #[.int .i64 11, .string (a0.extract (a1 : Int).toNat ((wrap64 ((ji76) + 1)) : Int).toNat), .int .i64 a1] (0, 0) _ rfl (by (with_reducible repeat (first | refine blk_drewN ?_ _ | refine blk_drew ?_ | refine blk_alloc ?_ _)); refine blk_put (cs := #[.int .i64 11, .string (a0.extract (a1 : Int).toNat ((wrap64 ((ji76) + 1)) : Int).toNat), .int .i64 0]) ?_ 2 _ rfl; (with_reducible repeat (first | refine blk_drewN ?_ _ | refine blk_drew ?_ | refine blk_alloc ?_ _)); refine blk_put (cs := #[.int .i64 11, .string (⟨#[]⟩ : ByteArray), .int .i64 0]) ?_ 1 _ rfl; (with_reducible repeat (first | refine blk_drewN ?_ _ | refine blk_drew ?_ | refine blk_alloc ?_ _)); refine blk_put (cs := #[.int .i64 0, .string (⟨#[]⟩ : ByteArray), .int .i64 0]) ?_ 0 _ rfl; (with_reducible repeat (first | refine blk_drewN ?_ _ | refine blk_drew ?_ | refine blk_alloc ?_ _)); refine blk_far ?_ NB127_128.out _; (with_reducible repeat (first | refine blk_drewN ?_ _ | refine blk_drew ?_ | refine blk_alloc ?_ _)); refine blk_far ?_ NB127_128.out _; (with_reducible repeat (first | refine blk_drewN ?_ _ | refine blk_drew ?_ | refine blk_alloc ?_ _)); exact BK127.out) Try.underlying52 rfl (by kernel_rfl)) rfl ?_
                                          exact ⟨by first | rfl | (simp [errW_none, errW_some] <;> rfl) | (simp only [← hji76]; first | rfl | (simp [errW_none, errW_some] <;> rfl)) | (simp [*, errW_none, errW_some] <;> rfl), by repeat (first | (with_reducible first | exact HB.out | apply below_alloc | apply pw_below_drewN | apply below_drew1 | refine below_set ?_ GE127.out | refine below_set ?_ GE128.out) | exact HB.out)⟩
                                        · rw [if_neg c83] at H
                                          exact absurd H (by simp)
                                      · rw [if_neg c82] at H
                                        exact absurd H (by simp)
                                    · rw [if_neg c81] at H
                                      exact absurd H (by simp)
                                  · replace c80 := Bool.eq_false_iff.mpr c80
                                    subst c80
                                    have H1 : (if 0 ≤ a1 then (if a1 ≤ (ji76) then (if (ji76) ≤ (a0.size : Int) then (some (11, a0.extract (a1 : Int).toNat ((ji76) : Int).toNat, a1, ji76)) else (none)) else (none)) else (none)) = some (r1, r2, r3, r4) := by rw [if_neg (show ¬ (false = true) by decide)] at H; exact H
                                    clear H
                                    have H := H1
                                    clear H1
                                    by_cases c87 : 0 ≤ a1
                                    · rw [if_pos c87] at H
                                      have c87b0 := eq_true c87
                                      have c87b1 : decide (0 ≤ a1) = true := decide_eq_true c87
                                      clear c87
                                      by_cases c88 : a1 ≤ (ji76)
                                      · rw [if_pos c88] at H
                                        have c88b0 := eq_true c88
                                        have c88b1 : decide (a1 ≤ (ji76)) = true := decide_eq_true c88
                                        clear c88
                                        by_cases c89 : (ji76) ≤ (a0.size : Int)
                                        · rw [if_pos c89] at H
                                          have c89b0 := eq_true c89
                                          have c89b1 : decide ((ji76) ≤ (a0.size : Int)) = true := decide_eq_true c89
                                          clear c89
                                          simp only [Option.some.injEq, Prod.mk.injEq] at H
                                          obtain ⟨rfl, rfl, rfl, rfl⟩ := H
                                          have p78 : 0 ≤ ((ji76) : Int) := of_decide_eq_true (by first | (with_reducible assumption) | assumption)
                                          have q78 : (ji76) < (a0.size : Int) := of_decide_eq_true (by first | (with_reducible assumption) | assumption)
                                          have hx78 := bt_at a0 (ji76)
                                          replace p78 := eq_true p78
                                          replace q78 := eq_true q78
                                          go_wp2_with (first | (go_at_call 34; (with_reducible refine (temporef23_in.calls kj71 (bt a0 (ji76)) (⟨#[33, 63]⟩ : ByteArray) false _ A79.out).mono ?_); rintro e w' ⟨rfl, ⟨nd, rfl⟩⟩; (try (rw [drewN_self wc]; generalize hq_ : World.drewN wc _ = wc; have n0_ : Aside0 (wc.heap[gb127]? = some (.cells #[.int .i64 0, .string (⟨#[]⟩ : ByteArray), .int .i64 0] 52 (0, 0))) := ⟨by rw [← hq_]; exact (by (with_reducible repeat (first | refine blk_drewN ?_ _ | refine blk_drew ?_ | refine blk_alloc ?_ _)); exact BK127.out)⟩; have n1_ : Aside0 (wc.heap[gb128]? = some (.cells #[.int .i64 0, .string (a0.extract (a1 : Int).toNat ((ji76) : Int).toNat), .int .i64 a1] 52 (0, 0))) := ⟨by rw [← hq_]; exact (by (with_reducible repeat (first | refine blk_drewN ?_ _ | refine blk_drew ?_ | refine blk_alloc ?_ _)); exact BK128.out)⟩; have n2_ : Aside0 (Below w.heap.size w wc) := ⟨by rw [← hq_]; exact (by repeat (first | (with_reducible first | exact HB.out | apply below_alloc | apply pw_below_drewN | apply below_drew1 | refine below_set ?_ GE127.out | refine below_set ?_ GE128.out) | exact HB.out))⟩; clear BK127 BK128 HB hq_; have BK127 := n0_; have BK128 := n1_; have HB := n2_; clear n0_ n1_ n2_)); have hnb90 := NB128_127.out; have hnc90 := NB127_128.out; have hcz91_0 : wc.cell? ⟨gb128, 0, none⟩ = some (.int .i64 0) := (blk_cell BK128.out 0).trans rfl; have hcz91_1 : wc.cell? ⟨gb128, 1, none⟩ = some (.string (a0.extract (a1 : Int).toNat ((ji76) : Int).toNat)) := (blk_cell BK128.out 1).trans rfl; have hcz91_2 : wc.cell? ⟨gb128, 2, none⟩ = some (.int .i64 a1) := (blk_cell BK128.out 2).trans rfl; have hfz91_0 := blk_frozen BK128.out 0; have hfz91_1 := blk_frozen BK128.out 1; have hfz91_2 := blk_frozen BK128.out 2; have hcz92_0 : wc.cell? ⟨gb127, 0, none⟩ = some (.int .i64 0) := (blk_cell BK127.out 0).trans rfl; have hcz92_1 : wc.cell? ⟨gb127, 1, none⟩ = some (.string (⟨#[]⟩ : ByteArray)) := (blk_cell BK127.out 1).trans rfl; have hcz92_2 : wc.cell? ⟨gb127, 2, none⟩ = some (.int .i64 0) := (blk_cell BK127.out 2).trans rfl; have hfz92_0 := blk_frozen BK127.out 0; have hfz92_1 := blk_frozen BK127.out 1; have hfz92_2 := blk_frozen BK127.out 2))
                                          refine bodyPost_ret (results_ct rfl _ _ gb127 52 #[.int .i64 11, .string (a0.extract (a1 : Int).toNat ((ji76) : Int).toNat), .int .i64 a1] (0, 0) _ rfl (by (with_reducible repeat (first | refine blk_drewN ?_ _ | refine blk_drew ?_ | refine blk_alloc ?_ _)); refine blk_put (cs := #[.int .i64 11, .string (a0.extract (a1 : Int).toNat ((ji76) : Int).toNat), .int .i64 0]) ?_ 2 _ rfl; (with_reducible repeat (first | refine blk_drewN ?_ _ | refine blk_drew ?_ | refine blk_alloc ?_ _)); refine blk_put (cs := #[.int .i64 11, .string (⟨#[]⟩ : ByteArray), .int .i64 0]) ?_ 1 _ rfl; (with_reducible repeat (first | refine blk_drewN ?_ _ | refine blk_drew ?_ | refine blk_alloc ?_ _)); refine blk_put (cs := #[.int .i64 0, .string (⟨#[]⟩ : ByteArray), .int .i64 0]) ?_ 0 _ rfl; (with_reducible repeat (first | refine blk_drewN ?_ _ | refine blk_drew ?_ | refine blk_alloc ?_ _)); refine blk_far ?_ NB127_128.out _; (with_reducible repeat (first | refine blk_drewN ?_ _ | refine blk_drew ?_ | refine blk_alloc ?_ _)); refine blk_far ?_ NB127_128.out _; (with_reducible repeat (first | refine blk_drewN ?_ _ | refine blk_drew ?_ | refine blk_alloc ?_ _)); exact BK127.out) Try.underlying52 rfl (by kernel_rfl)) rfl ?_
                                          exact ⟨by first | rfl | (simp [errW_none, errW_some] <;> rfl) | (simp only [← hji76]; first | rfl | (simp [errW_none, errW_some] <;> rfl)) | (simp [*, errW_none, errW_some] <;> rfl), by repeat (first | (with_reducible first | exact HB.out | apply below_alloc | apply pw_below_drewN | apply below_drew1 | refine below_set ?_ GE127.out | refine below_set ?_ GE128.out) | exact HB.out)⟩
                                        · rw [if_neg c89] at H
                                          exact absurd H (by simp)
                                      · rw [if_neg c88] at H
                                        exact absurd H (by simp)
                                    · rw [if_neg c87] at H
                                      exact absurd H (by simp)
                                · rw [if_neg c77] at H
                                  exact absurd H (by simp)
                              · rw [if_neg c75] at H
                                have c75b0 : decide ((wrap64 (a1 + 1)) < (a0.size : Int)) = false := decide_eq_false c75
                                clear c75
                                by_cases c93 : 0 ≤ a1
                                · rw [if_pos c93] at H
                                  have c93b0 := eq_true c93
                                  have c93b1 : decide (0 ≤ a1) = true := decide_eq_true c93
                                  clear c93
                                  by_cases c94 : a1 ≤ (wrap64 (a1 + 1))
                                  · rw [if_pos c94] at H
                                    have c94b0 := eq_true c94
                                    have c94b1 : decide (a1 ≤ (wrap64 (a1 + 1))) = true := decide_eq_true c94
                                    by_cases c95 : (wrap64 (a1 + 1)) ≤ (a0.size : Int)
                                    · rw [if_pos c95] at H
                                      have c95b0 := eq_true c95
                                      have c95b1 : decide ((wrap64 (a1 + 1)) ≤ (a0.size : Int)) = true := decide_eq_true c95
                                      simp only [Option.some.injEq, Prod.mk.injEq] at H
                                      obtain ⟨rfl, rfl, rfl, rfl⟩ := H
                                      have hnb96 := NB128_127.out
                                      have hnc96 := NB127_128.out
                                      have hcz97_0 : wc.cell? ⟨gb128, 0, none⟩ = some (.int .i64 0) := (blk_cell BK128.out 0).trans rfl
                                      have hcz97_1 : wc.cell? ⟨gb128, 1, none⟩ = some (.string (a0.extract (a1 : Int).toNat ((wrap64 (a1 + 1)) : Int).toNat)) := (blk_cell BK128.out 1).trans rfl
                                      have hcz97_2 : wc.cell? ⟨gb128, 2, none⟩ = some (.int .i64 a1) := (blk_cell BK128.out 2).trans rfl
                                      have hfz97_0 := blk_frozen BK128.out 0
                                      have hfz97_1 := blk_frozen BK128.out 1
                                      have hfz97_2 := blk_frozen BK128.out 2
                                      have hcz98_0 : wc.cell? ⟨gb127, 0, none⟩ = some (.int .i64 0) := (blk_cell BK127.out 0).trans rfl
                                      have hcz98_1 : wc.cell? ⟨gb127, 1, none⟩ = some (.string (⟨#[]⟩ : ByteArray)) := (blk_cell BK127.out 1).trans rfl
                                      have hcz98_2 : wc.cell? ⟨gb127, 2, none⟩ = some (.int .i64 0) := (blk_cell BK127.out 2).trans rfl
                                      have hfz98_0 := blk_frozen BK127.out 0
                                      have hfz98_1 := blk_frozen BK127.out 1
                                      have hfz98_2 := blk_frozen BK127.out 2
                                      go_wp2
                                      refine bodyPost_ret (results_ct rfl _ _ gb127 52 #[.int .i64 11, .string (a0.extract (a1 : Int).toNat ((wrap64 (a1 + 1)) : Int).toNat), .int .i64 a1] (0, 0) _ rfl (by (with_reducible repeat (first | refine blk_drewN ?_ _ | refine blk_drew ?_ | refine blk_alloc ?_ _)); refine blk_put (cs := #[.int .i64 11, .string (a0.extract (a1 : Int).toNat ((wrap64 (a1 + 1)) : Int).toNat), .int .i64 0]) ?_ 2 _ rfl; (with_reducible repeat (first | refine blk_drewN ?_ _ | refine blk_drew ?_ | refine blk_alloc ?_ _)); refine blk_put (cs := #[.int .i64 11, .string (⟨#[]⟩ : ByteArray), .int .i64 0]) ?_ 1 _ rfl; (with_reducible repeat (first | refine blk_drewN ?_ _ | refine blk_drew ?_ | refine blk_alloc ?_ _)); refine blk_put (cs := #[.int .i64 0, .string (⟨#[]⟩ : ByteArray), .int .i64 0]) ?_ 0 _ rfl; (with_reducible repeat (first | refine blk_drewN ?_ _ | refine blk_drew ?_ | refine blk_alloc ?_ _)); refine blk_far ?_ NB127_128.out _; (with_reducible repeat (first | refine blk_drewN ?_ _ | refine blk_drew ?_ | refine blk_alloc ?_ _)); refine blk_far ?_ NB127_128.out _; (with_reducible repeat (first | refine blk_drewN ?_ _ | refine blk_drew ?_ | refine blk_alloc ?_ _)); exact BK127.out) Try.underlying52 rfl (by kernel_rfl)) rfl ?_
                                      exact ⟨by first | rfl | (simp [errW_none, errW_some] <;> rfl) | (simp [*, errW_none, errW_some] <;> rfl), by repeat (first | (with_reducible first | exact HB.out | apply below_alloc | apply pw_below_drewN | apply below_drew1 | refine below_set ?_ GE127.out | refine below_set ?_ GE128.out) | exact HB.out)⟩
                                    · rw [if_neg c95] at H
                                      exact absurd H (by simp)
                                  · rw [if_neg c94] at H
                                    exact absurd H (by simp)
                                · rw [if_neg c93] at H
                                  exact absurd H (by simp)
                            · replace c74 := Bool.eq_false_iff.mpr c74
                              subst c74
                              have H1 : (temporef23_token.l0 kj71 a1 (bt a0 a1) (⟨#[46, 42, 91, 93, 40, 41]⟩ : ByteArray) 0 0 (a0.extract (a1 : Int).toNat ((wrap64 (a1 + 1)) : Int).toNat) a1) = some (r1, r2, r3, r4) := by rw [if_neg (show ¬ (false = true) by decide)] at H; exact H
                              clear H
                              have H := H1
                              clear H1
                              have H' := Aside0.mk H
                              clear H
                              go_wp2
                              go_loopg [10] kj71 (fun kq v10 w' => ∃ (x10_3 : Int) (x128000_3 : Int) (x128001_3 : ByteArray) (x128002_3 : Int) (x129000_3 : Int), v10 = .int .i64 x10_3 ∧ Aside0 (temporef23_token.l0 kq a1 (bt a0 a1) (⟨#[46, 42, 91, 93, 40, 41]⟩ : ByteArray) x10_3 x129000_3 (a0.extract (a1 : Int).toNat ((wrap64 (a1 + 1)) : Int).toNat) a1 = some (r1, r2, r3, r4)) ∧ Aside0 (kq ≤ kj71) ∧ Aside0 (w'.heap[gb127]? = some (.cells #[.int .i64 x128000_3, .string x128001_3, .int .i64 x128002_3] 52 (0, 0))) ∧ Aside0 (w'.heap[gb128]? = some (.cells #[.int .i64 x129000_3, .string (a0.extract (a1 : Int).toNat ((wrap64 (a1 + 1)) : Int).toNat), .int .i64 a1] 52 (0, 0))) ∧ Aside0 (Below w.heap.size w w'))
                              case atStart => exact ⟨(0), (0), ((⟨#[]⟩ : ByteArray)), (0), (0), (by first | rfl | (simp; done) | (simp [*]; done)), H', ⟨Nat.le_refl _⟩, ⟨by (with_reducible repeat (first | refine blk_drewN ?_ _ | refine blk_drew ?_ | refine blk_alloc ?_ _)); exact BK127.out⟩, ⟨by (with_reducible repeat (first | refine blk_drewN ?_ _ | refine blk_drew ?_ | refine blk_alloc ?_ _)); exact BK128.out⟩, ⟨by repeat (first | (with_reducible first | exact HB.out | apply below_alloc | apply pw_below_drewN | apply below_drew1 | refine below_set ?_ GE127.out | refine below_set ?_ GE128.out) | exact HB.out)⟩⟩
                              case round =>
                                clear H'
                                try clear c1
                                try clear c2
                                try clear p2
                                try clear c3
                                try clear c3b0
                                try clear c4
                                try clear c4b0
                                try clear c5
                                try clear p5
                                try clear q5
                                try clear hx5
                                try clear c6
                                try clear c6b0
                                try clear p6
                                try clear c7
                                try clear c7b0
                                try clear c7b1
                                try clear p7
                                try clear q7
                                try clear hx7
                                try clear c8
                                try clear c8b0
                                try clear c8b1
                                try clear c9
                                try clear c12
                                try clear c15
                                try clear c17
                                try clear c19
                                try clear c19b0
                                try clear c19b1
                                try clear c20
                                try clear c20b0
                                try clear c20b1
                                try clear c21
                                try clear c21b0
                                try clear c21b1
                                try clear c22
                                try clear c22b0
                                try clear c23
                                try clear c26
                                try clear c29
                                try clear c29b0
                                try clear c29b1
                                try clear c31
                                try clear c34
                                try clear c34b0
                                try clear c34b1
                                try clear c35
                                try clear c36
                                try clear c37
                                try clear c37b0
                                try clear c37b1
                                try clear c38
                                try clear c38b0
                                try clear c38b1
                                try clear c39
                                try clear c39b0
                                try clear c39b1
                                try clear c40
                                try clear c40b0
                                try clear c40b1
                                try clear c41
                                try clear c44
                                try clear c44b0
                                try clear c44b1
                                try clear c45
                                try clear c46
                                try clear c47
                                try clear c48
                                try clear c51
                                try clear c51b0
                                try clear c51b1
                                try clear c53
                                try clear c53b0
                                try clear c53b1
                                try clear c54
                                try clear c57
                                try clear c57b0
                                try clear c57b1
                                try clear c58
                                try clear c58b0
                                try clear c58b1
                                try clear c59
                                try clear c59b0
                                try clear c59b1
                                try clear c60
                                try clear c63
                                try clear c63b0
                                try clear c63b1
                                try clear p64
                                try clear c66
                                try clear c66b0
                                try clear c66b1
                                try clear c67
                                try clear c67b0
                                try clear c67b1
                                try clear c68
                                try clear c68b0
                                try clear c68b1
                                try clear c69
                                try clear c73
                                try clear c73b0
                                try clear c73b1
                                try clear c74
                                try clear c75
                                try clear c75b0
                                try clear c77
                                try clear c77b0
                                try clear p78
                                try clear q78
                                try clear hx78
                                try clear c80
                                try clear c81
                                try clear c81b0
                                try clear c81b1
                                try clear c82
                                try clear c82b0
                                try clear c82b1
                                try clear c83
                                try clear c83b0
                                try clear c83b1
                                try clear c84
                                try clear c87
                                try clear c87b0
                                try clear c87b1
                                try clear c88
                                try clear c88b0
                                try clear c88b1
                                try clear c89
                                try clear c89b0
                                try clear c89b1
                                try clear c90
                                try clear c93
                                try clear c93b0
                                try clear c93b1
                                try clear c94
                                try clear c94b0
                                try clear c94b1
                                try clear c95
                                try clear c95b0
                                try clear c95b1
                                try clear c96
                                try clear hcz13_0
                                try clear hcz13_1
                                try clear hcz13_2
                                try clear hcz24_0
                                try clear hcz24_1
                                try clear hcz24_2
                                try clear hcz25_0
                                try clear hcz25_1
                                try clear hcz25_2
                                try clear hcz27_0
                                try clear hcz27_1
                                try clear hcz27_2
                                try clear hcz28_0
                                try clear hcz28_1
                                try clear hcz28_2
                                try clear hcz32_0
                                try clear hcz32_1
                                try clear hcz32_2
                                try clear hcz33_0
                                try clear hcz33_1
                                try clear hcz33_2
                                try clear hcz42_0
                                try clear hcz42_1
                                try clear hcz42_2
                                try clear hcz43_0
                                try clear hcz43_1
                                try clear hcz43_2
                                try clear hcz46_0
                                try clear hcz46_1
                                try clear hcz46_2
                                try clear hcz47_0
                                try clear hcz47_1
                                try clear hcz47_2
                                try clear hcz49_0
                                try clear hcz49_1
                                try clear hcz49_2
                                try clear hcz50_0
                                try clear hcz50_1
                                try clear hcz50_2
                                try clear hcz55_0
                                try clear hcz55_1
                                try clear hcz55_2
                                try clear hcz61_0
                                try clear hcz61_1
                                try clear hcz61_2
                                try clear hcz62_0
                                try clear hcz62_1
                                try clear hcz62_2
                                try clear hcz70_0
                                try clear hcz70_1
                                try clear hcz70_2
                                try clear hcz71_0
                                try clear hcz71_1
                                try clear hcz71_2
                                try clear hcz85_0
                                try clear hcz85_1
                                try clear hcz85_2
                                try clear hcz86_0
                                try clear hcz86_1
                                try clear hcz86_2
                                try clear hcz91_0
                                try clear hcz91_1
                                try clear hcz91_2
                                try clear hcz92_0
                                try clear hcz92_1
                                try clear hcz92_2
                                try clear hcz97_0
                                try clear hcz97_1
                                try clear hcz97_2
                                try clear hcz98_0
                                try clear hcz98_1
                                try clear hcz98_2
                                try clear hfz13_0
                                try clear hfz13_1
                                try clear hfz13_2
                                try clear hfz24_0
                                try clear hfz24_1
                                try clear hfz24_2
                                try clear hfz25_0
                                try clear hfz25_1
                                try clear hfz25_2
                                try clear hfz27_0
                                try clear hfz27_1
                                try clear hfz27_2
                                try clear hfz28_0
                                try clear hfz28_1
                                try clear hfz28_2
                                try clear hfz32_0
                                try clear hfz32_1
                                try clear hfz32_2
                                try clear hfz33_0
                                try clear hfz33_1
                                try clear hfz33_2
                                try clear hfz42_0
                                try clear hfz42_1
                                try clear hfz42_2
                                try clear hfz43_0
                                try clear hfz43_1
                                try clear hfz43_2
                                try clear hfz46_0
                                try clear hfz46_1
                                try clear hfz46_2
                                try clear hfz47_0
                                try clear hfz47_1
                                try clear hfz47_2
                                try clear hfz49_0
                                try clear hfz49_1
                                try clear hfz49_2
                                try clear hfz50_0
                                try clear hfz50_1
                                try clear hfz50_2
                                try clear hfz55_0
                                try clear hfz55_1
                                try clear hfz55_2
                                try clear hfz61_0
                                try clear hfz61_1
                                try clear hfz61_2
                                try clear hfz62_0
                                try clear hfz62_1
                                try clear hfz62_2
                                try clear hfz70_0
                                try clear hfz70_1
                                try clear hfz70_2
                                try clear hfz71_0
                                try clear hfz71_1
                                try clear hfz71_2
                                try clear hfz85_0
                                try clear hfz85_1
                                try clear hfz85_2
                                try clear hfz86_0
                                try clear hfz86_1
                                try clear hfz86_2
                                try clear hfz91_0
                                try clear hfz91_1
                                try clear hfz91_2
                                try clear hfz92_0
                                try clear hfz92_1
                                try clear hfz92_2
                                try clear hfz97_0
                                try clear hfz97_1
                                try clear hfz97_2
                                try clear hfz98_0
                                try clear hfz98_1
                                try clear hfz98_2
                                try clear p2
                                try clear p5
                                try clear p6
                                try clear p64
                                try clear p78
                                try clear q5
                                try clear q78
                                obtain ⟨x10_3, x128000_3, x128001_3, x128002_3, x129000_3, rfl, HA, HK3, BK127, BK128, HB⟩ := hrel
                                cases gk with
                                | zero => exact absurd HA.out (by simp [temporef23_token.l0])
                                | succ k3 =>
                                  have H := HA.out
                                  clear HA
                                  simp only [temporef23_token.l0] at H
                                  by_cases c99 : x10_3 < ((⟨#[46, 42, 91, 93, 40, 41]⟩ : ByteArray).size : Int)
                                  · rw [if_pos c99] at H
                                    have c99b0 : decide (x10_3 < ((⟨#[46, 42, 91, 93, 40, 41]⟩ : ByteArray).size : Int)) = true := decide_eq_true c99
                                    clear c99
                                    by_cases c100 : 0 ≤ x10_3
                                    · rw [if_pos c100] at H
                                      have c100b0 : decide (0 ≤ x10_3) = true := decide_eq_true c100
                                      clear c100
                                      by_cases c102 : (bt (⟨#[46, 42, 91, 93, 40, 41]⟩ : ByteArray) x10_3) = (bt a0 a1)
                                      · rw [if_pos c102] at H
                                        have c102b0 : ((bt (⟨#[46, 42, 91, 93, 40, 41]⟩ : ByteArray) x10_3) == (bt a0 a1)) = true := beq_iff_eq.mpr c102
                                        have c102b1 : ((bt (⟨#[46, 42, 91, 93, 40, 41]⟩ : ByteArray) x10_3) != (bt a0 a1)) = false := bne_eq_false_iff_eq.mpr c102
                                        clear c102
                                        simp only [Option.some.injEq, Prod.mk.injEq] at H
                                        obtain ⟨rfl, rfl, rfl, rfl⟩ := H
                                        have p101 : 0 ≤ (x10_3 : Int) := of_decide_eq_true (by first | (with_reducible assumption) | assumption)
                                        have q101 : x10_3 < (6 : Int) := of_decide_eq_true (by first | (with_reducible assumption) | assumption)
                                        have hx101 := bt_at (⟨#[46, 42, 91, 93, 40, 41]⟩ : ByteArray) x10_3
                                        replace p101 := eq_true p101
                                        replace q101 := eq_true q101
                                        have hnb103 := NB128_127.out
                                        have hnc103 := NB127_128.out
                                        have hcz104_0 : wr.cell? ⟨gb128, 0, none⟩ = some (.int .i64 x129000_3) := (blk_cell BK128.out 0).trans rfl
                                        have hcz104_1 : wr.cell? ⟨gb128, 1, none⟩ = some (.string (a0.extract (a1 : Int).toNat ((wrap64 (a1 + 1)) : Int).toNat)) := (blk_cell BK128.out 1).trans rfl
                                        have hcz104_2 : wr.cell? ⟨gb128, 2, none⟩ = some (.int .i64 a1) := (blk_cell BK128.out 2).trans rfl
                                        have hfz104_0 := blk_frozen BK128.out 0
                                        have hfz104_1 := blk_frozen BK128.out 1
                                        have hfz104_2 := blk_frozen BK128.out 2
                                        have hcz105_0 : wr.cell? ⟨gb127, 0, none⟩ = some (.int .i64 x128000_3) := (blk_cell BK127.out 0).trans rfl
                                        have hcz105_1 : wr.cell? ⟨gb127, 1, none⟩ = some (.string x128001_3) := (blk_cell BK127.out 1).trans rfl
                                        have hcz105_2 : wr.cell? ⟨gb127, 2, none⟩ = some (.int .i64 x128002_3) := (blk_cell BK127.out 2).trans rfl
                                        have hfz105_0 := blk_frozen BK127.out 0
                                        have hfz105_1 := blk_frozen BK127.out 1
                                        have hfz105_2 := blk_frozen BK127.out 2
                                        go_wp2
                                        refine bodyPost_ret (results_ct rfl _ _ gb127 52 #[.int .i64 (wrap64 (3 + x10_3)), .string (a0.extract (a1 : Int).toNat ((wrap64 (a1 + 1)) : Int).toNat), .int .i64 a1] (0, 0) _ rfl (by (with_reducible repeat (first | refine blk_drewN ?_ _ | refine blk_drew ?_ | refine blk_alloc ?_ _)); refine blk_put (cs := #[.int .i64 (wrap64 (3 + x10_3)), .string (a0.extract (a1 : Int).toNat ((wrap64 (a1 + 1)) : Int).toNat), .int .i64 x128002_3]) ?_ 2 _ rfl; (with_reducible repeat (first | refine blk_drewN ?_ _ | refine blk_drew ?_ | refine blk_alloc ?_ _)); refine blk_put (cs := #[.int .i64 (wrap64 (3 + x10_3)), .string x128001_3, .int .i64 x128002_3]) ?_ 1 _ rfl; (with_reducible repeat (first | refine blk_drewN ?_ _ | refine blk_drew ?_ | refine blk_alloc ?_ _)); refine blk_put (cs := #[.int .i64 x128000_3, .string x128001_3, .int .i64 x128002_3]) ?_ 0 _ rfl; (with_reducible repeat (first | refine blk_drewN ?_ _ | refine blk_drew ?_ | refine blk_alloc ?_ _)); refine blk_far ?_ NB127_128.out _; (with_reducible repeat (first | refine blk_drewN ?_ _ | refine blk_drew ?_ | refine blk_alloc ?_ _)); exact BK127.out) Try.underlying52 rfl (by kernel_rfl)) rfl ?_
                                        exact ⟨by first | rfl | (simp [errW_none, errW_some] <;> rfl) | (simp [*, errW_none, errW_some] <;> rfl), by repeat (first | (with_reducible first | exact HB.out | apply below_alloc | apply pw_below_drewN | apply below_drew1 | refine below_set ?_ GE127.out | refine below_set ?_ GE128.out) | exact HB.out)⟩
                                      · rw [if_neg c102] at H
                                        have c102b0 : ((bt (⟨#[46, 42, 91, 93, 40, 41]⟩ : ByteArray) x10_3) == (bt a0 a1)) = false := beq_eq_false_iff_ne.mpr c102
                                        have c102b1 : ((bt (⟨#[46, 42, 91, 93, 40, 41]⟩ : ByteArray) x10_3) != (bt a0 a1)) = true := bne_iff_ne.mpr c102
                                        have H' := Aside0.mk H
                                        clear H
                                        have p101 : 0 ≤ (x10_3 : Int) := of_decide_eq_true (by first | (with_reducible assumption) | assumption)
                                        have q101 : x10_3 < (6 : Int) := of_decide_eq_true (by first | (with_reducible assumption) | assumption)
                                        have hx101 := bt_at (⟨#[46, 42, 91, 93, 40, 41]⟩ : ByteArray) x10_3
                                        replace p101 := eq_true p101
                                        replace q101 := eq_true q101
                                        go_wp2
                                        go_roundg k3
                                        case measure => have := HJ8.out; have := HJ71.out; have := HK3.out; omega
                                        case rel => exact ⟨(wrap64 (x10_3 + 1)), (x128000_3), (x128001_3), (x128002_3), (x129000_3), (by first | rfl | (simp; done) | (simp [*]; done)), H', ⟨by have := HJ8.out; have := HJ71.out; have := HK3.out; omega⟩, ⟨by (with_reducible repeat (first | refine blk_drewN ?_ _ | refine blk_drew ?_ | refine blk_alloc ?_ _)); exact BK127.out⟩, ⟨by (with_reducible repeat (first | refine blk_drewN ?_ _ | refine blk_drew ?_ | refine blk_alloc ?_ _)); exact BK128.out⟩, ⟨by repeat (first | (with_reducible first | exact HB.out | apply below_alloc | apply pw_below_drewN | apply below_drew1 | refine below_set ?_ GE127.out | refine below_set ?_ GE128.out) | exact HB.out)⟩⟩
                                    · rw [if_neg c100] at H
                                      exact absurd H (by simp)
                                  · rw [if_neg c99] at H
                                    have c99b0 : decide (x10_3 < ((⟨#[46, 42, 91, 93, 40, 41]⟩ : ByteArray).size : Int)) = false := decide_eq_false c99
                                    have c99x : (6 : Int) ≤ x10_3 := Int.not_lt.mp (of_decide_eq_false c99b0)
                                    clear c99
                                    simp only [Option.some.injEq, Prod.mk.injEq] at H
                                    obtain ⟨rfl, rfl, rfl, rfl⟩ := H
                                    have hnb106 := NB127_128.out
                                    have hnc106 := NB128_127.out
                                    have hcz107_0 : wr.cell? ⟨gb127, 0, none⟩ = some (.int .i64 x128000_3) := (blk_cell BK127.out 0).trans rfl
                                    have hcz107_1 : wr.cell? ⟨gb127, 1, none⟩ = some (.string x128001_3) := (blk_cell BK127.out 1).trans rfl
                                    have hcz107_2 : wr.cell? ⟨gb127, 2, none⟩ = some (.int .i64 x128002_3) := (blk_cell BK127.out 2).trans rfl
                                    have hfz107_0 := blk_frozen BK127.out 0
                                    have hfz107_1 := blk_frozen BK127.out 1
                                    have hfz107_2 := blk_frozen BK127.out 2
                                    go_wp2
                                    refine bodyPost_ret (results_ct rfl _ _ gb127 52 #[.int .i64 0, .string (⟨#[]⟩ : ByteArray), .int .i64 0] (0, 0) _ rfl (by (with_reducible repeat (first | refine blk_drewN ?_ _ | refine blk_drew ?_ | refine blk_alloc ?_ _)); refine blk_put (cs := #[.int .i64 0, .string (⟨#[]⟩ : ByteArray), .int .i64 x128002_3]) ?_ 2 _ rfl; (with_reducible repeat (first | refine blk_drewN ?_ _ | refine blk_drew ?_ | refine blk_alloc ?_ _)); refine blk_put (cs := #[.int .i64 0, .string x128001_3, .int .i64 x128002_3]) ?_ 1 _ rfl; (with_reducible repeat (first | refine blk_drewN ?_ _ | refine blk_drew ?_ | refine blk_alloc ?_ _)); refine blk_put (cs := #[.int .i64 x128000_3, .string x128001_3, .int .i64 x128002_3]) ?_ 0 _ rfl; (with_reducible repeat (first | refine blk_drewN ?_ _ | refine blk_drew ?_ | refine blk_alloc ?_ _)); exact BK127.out) Try.underlying52 rfl (by kernel_rfl)) rfl ?_
                                    exact ⟨by first | rfl | (simp [errW_none, errW_some] <;> rfl) | (simp [*, errW_none, errW_some] <;> rfl), by repeat (first | (with_reducible first | exact HB.out | apply below_alloc | apply pw_below_drewN | apply below_drew1 | refine below_set ?_ GE127.out | refine below_set ?_ GE128.out) | exact HB.out)⟩
        · rw [if_neg c8] at H
          exact absurd H (by simp)
      · rw [if_neg c7] at H
        exact absurd H (by simp)
    · rw [if_neg c4] at H
      exact absurd H (by simp)
  · rw [if_neg c3] at H
    exact absurd H (by simp)

end Go.Proofs.Ytlpoglkddknedaa.T

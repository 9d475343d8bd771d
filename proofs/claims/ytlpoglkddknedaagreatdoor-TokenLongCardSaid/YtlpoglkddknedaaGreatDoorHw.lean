/- works: the law's own checks of the scanner's constants, which answer true. No condition. -/
import Derived.Test.YtlpoglkddknedaaGreatDoorHy
import Derived.Test.YtlpoglkddknedaaGreatDoorHd
import Derived.Test.YtlpoglkddknedaaGreatDoorHq
import Derived.Test.YtlpoglkddknedaaGreatDoorTx11
namespace Go.Proofs.YtlpoglkddknedaaGreatDoor.H
open Go.RowKit Go.Shelf Go.Proofs.YtlpoglkddknedaaGreatDoor.T Go.Proofs.YtlpoglkddknedaaGreatDoorW.PrintWords Go.Proofs.YtlpoglkddknedaaGreatDoorW.PrintLast
attribute [local go_sem high] eqA31
attribute [local go_sem] Oper.semAt_some
set_option linter.unusedVariables false
set_option linter.unusedSimpArgs false

def L1 : List S31 := [⟨5, ⟨#[91]⟩, 0⟩, ⟨2, ⟨#[65]⟩, 1⟩, ⟨1, ⟨#[98, 34, 99]⟩, 3⟩, ⟨6, ⟨#[93]⟩, 9⟩]
def L2 : List S31 := [⟨2, ⟨#[49]⟩, 0⟩, ⟨3, ⟨#[46]⟩, 1⟩, ⟨2, ⟨#[101, 52]⟩, 3⟩, ⟨2, ⟨#[101, 53]⟩, 6⟩, ⟨11, ⟨#[33, 63]⟩, 8⟩, ⟨9, ⟨#[49, 52]⟩, 11⟩, ⟨4, ⟨#[42]⟩, 15⟩]
def L4 : List S31 := [⟨7, ⟨#[40]⟩, 0⟩, ⟨2, ⟨#[97]⟩, 1⟩, ⟨10, ⟨#[98, 32, 40, 99]⟩, 3⟩, ⟨2, ⟨#[100]⟩, 10⟩, ⟨8, ⟨#[41]⟩, 11⟩]
theorem s1 : scanF ⟨#[91, 65, 32, 34, 98, 92, 34, 99, 34, 93]⟩ = some (L1, 0, 0) := by kernel_rfl
theorem s2 : scanF ⟨#[49, 46, 32, 101, 52, 32, 101, 53, 33, 63, 32, 36, 49, 52, 32, 42]⟩ = some (L2, 0, 0) := by kernel_rfl
theorem s3 : scanF ⟨#[97, 32, 59, 98, 10, 37, 99, 32, 100, 10, 101, 37]⟩ = some ([], 11, 8) := by kernel_rfl
theorem s4 : scanN 14 ⟨#[40, 97, 32, 123, 98, 32, 40, 99, 125, 32, 100, 41]⟩ 0 = some (L4, -1) := by kernel_rfl
theorem s5 : quoteF ⟨#[98, 34, 99, 92]⟩ = (⟨#[34, 98, 92, 34, 99, 92, 92, 34]⟩, 0) := by kernel_rfl
theorem s6 : token_Is.f ⟨#[101, 56, 61, 81, 35]⟩ = some true := by kernel_rfl
theorem s7 : token_Is.f ⟨#[43, 49]⟩ = some false := by kernel_rfl
theorem s8 : token_Token.f 8 L1 L1 = some true := by kernel_rfl
theorem q5 (w : World) : Calls Tryz.prog 20 #[.string ⟨#[98, 34, 99, 92]⟩] w fun e w' => e = .returned (.tuple #[.string ⟨#[34, 98, 92, 34, 99, 92, 92, 34]⟩, .int .i64 0]) ∧ Below w.heap.size w w' := by
  have h := quote_any ⟨#[98, 34, 99, 92]⟩ (by simp [ByteArray.size]) w
  rw [s5] at h
  exact h

theorem c1 (n : Nat) (w : World) : CallsIn Fence.wide n Tryz.prog 7 #[.string ⟨#[91, 65, 32, 34, 98, 92, 34, 99, 34, 93]⟩] w fun e w' => ∃ v0_ : Value, e = .returned (.tuple #[v0_, .int .i64 0, .int .i64 0]) ∧ Kd.R k31 31 w' w.heap.size (fun _ => True) v0_ L1 ∧ Below w.heap.size w w' := callsIn_wide.2 (Scan_calls _ _ _ _ w s1)
theorem c2 (n : Nat) (w : World) : CallsIn Fence.wide n Tryz.prog 7 #[.string ⟨#[49, 46, 32, 101, 52, 32, 101, 53, 33, 63, 32, 36, 49, 52, 32, 42]⟩] w fun e w' => ∃ v0_ : Value, e = .returned (.tuple #[v0_, .int .i64 0, .int .i64 0]) ∧ Kd.R k31 31 w' w.heap.size (fun _ => True) v0_ L2 ∧ Below w.heap.size w w' := callsIn_wide.2 (Scan_calls _ _ _ _ w s2)
theorem c3 (n : Nat) (w : World) : CallsIn Fence.wide n Tryz.prog 7 #[.string ⟨#[97, 32, 59, 98, 10, 37, 99, 32, 100, 10, 101, 37]⟩] w fun e w' => ∃ v0_ : Value, e = .returned (.tuple #[v0_, .int .i64 11, .int .i64 8]) ∧ Kd.R k31 31 w' w.heap.size (fun _ => True) v0_ [] ∧ Below w.heap.size w w' := callsIn_wide.2 (Scan_calls _ _ _ _ w s3)

abbrev B8 : Obj := Obj.cells #[.int .i64 5, .string ⟨#[91]⟩, .int .i64 0, .int .i64 2, .string ⟨#[65]⟩, .int .i64 1, .int .i64 1, .string ⟨#[98, 34, 99]⟩, .int .i64 3, .int .i64 6, .string ⟨#[93]⟩, .int .i64 9] 31
theorem lit_C (W : World) : k31.C (W.alloc B8) (some ⟨W.heap.size, 0, none⟩) 4 L1 := by
  refine ⟨rfl, by decide, fun _ => ⟨_, rfl, ?_⟩⟩
  have hb := blk_new W B8
  intro j p hj
  have hcell : ∀ i, (W.alloc B8).cell? ⟨W.heap.size, i, none⟩ = #[Value.int .i64 5, .string ⟨#[91]⟩, .int .i64 0, .int .i64 2, .string ⟨#[65]⟩, .int .i64 1, .int .i64 1, .string ⟨#[98, 34, 99]⟩, .int .i64 3, .int .i64 6, .string ⟨#[93]⟩, .int .i64 9][i]? := fun i => blk_cell hb i
  match j, hj with
  | 0, hj => obtain rfl := Option.some.inj hj; exact ⟨_, rfl, k31_mk _ _, fun i u hu => by match i, hu with | 0, hu => obtain rfl := Option.some.inj hu; exact hcell 0 | 1, hu => obtain rfl := Option.some.inj hu; exact hcell 1 | 2, hu => obtain rfl := Option.some.inj hu; exact hcell 2⟩
  | 1, hj => obtain rfl := Option.some.inj hj; exact ⟨_, rfl, k31_mk _ _, fun i u hu => by match i, hu with | 0, hu => obtain rfl := Option.some.inj hu; exact hcell 3 | 1, hu => obtain rfl := Option.some.inj hu; exact hcell 4 | 2, hu => obtain rfl := Option.some.inj hu; exact hcell 5⟩
  | 2, hj => obtain rfl := Option.some.inj hj; exact ⟨_, rfl, k31_mk _ _, fun i u hu => by match i, hu with | 0, hu => obtain rfl := Option.some.inj hu; exact hcell 6 | 1, hu => obtain rfl := Option.some.inj hu; exact hcell 7 | 2, hu => obtain rfl := Option.some.inj hu; exact hcell 8⟩
  | 3, hj => obtain rfl := Option.some.inj hj; exact ⟨_, rfl, k31_mk _ _, fun i u hu => by match i, hu with | 0, hu => obtain rfl := Option.some.inj hu; exact hcell 9 | 1, hu => obtain rfl := Option.some.inj hu; exact hcell 10 | 2, hu => obtain rfl := Option.some.inj hu; exact hcell 11⟩
theorem c19 (n : Nat) (W : World) (A1 : Option Addr) (c1 : Nat) (h1 : k31.C W A1 4 L1) (hc : 4 ≤ c1) : CallsIn Fence.wide n Tryz.prog 8 #[.slice A1 4 c1, .slice (some ⟨W.heap.size, 0, none⟩) 4 4] (W.alloc B8) fun e w' => e = .returned (.bool true) ∧ Drawn0 (W.alloc B8) w' :=
  callsIn_wide.2 (token_Token.calls 8 A1 c1 L1 (some ⟨W.heap.size, 0, none⟩) 4 L1 true (W.alloc B8) (Kd.C_alloc h1 _) hc (lit_C W) (by decide) s8)
theorem is1 (n : Nat) (W : World) : CallsIn Fence.wide n Tryz.prog 12 #[.string ⟨#[101, 56, 61, 81, 35]⟩] W fun e w' => e = .returned (.bool true) ∧ Below W.heap.size W w' := callsIn_wide.2 (token_Is.calls _ _ W s6)
theorem is2 (n : Nat) (W : World) : CallsIn Fence.wide n Tryz.prog 12 #[.string ⟨#[43, 49]⟩] W fun e w' => e = .returned (.bool false) ∧ Below W.heap.size W w' := callsIn_wide.2 (token_Is.calls _ _ W s7)
theorem fold1 (t : Array Value) (p : Nat) (v : Value) : (#[p].zip #[v]).foldl (fun t (p, v) => t.setIfInBounds p v) t = t.setIfInBounds p v := by simp

theorem R_elder {w : World} {e base a : Nat} {ok : Nat → Prop} {v : Value} {xs : List S31} (h : Kd.R k31 e w base ok v xs) (ha : w.heap.size ≤ a) : Kd.R k31 e w base (fun k => k ≠ a) v xs :=
  Kd.R_mono (Kd.R_bound h) (fun k hk => by have := hk.2.2.1; omega)



set_option maxHeartbeats 4000000 in
set_option maxRecDepth 100000 in
set_option maxRecDepth 100000 in
theorem works_calls (w : World) : Calls Tryz.prog 10 #[] w fun e w' => e = .returned (.bool true) ∧ Below w.heap.size w w' := by
  refine (callsIn_wide (n := 5)).1 ?_
  refine callsIn_of_wp_marks Tryz.func10 rfl trivial ?_ rfl
  simp only [Tryz.ntmps10, List.size_toArray, List.length_cons, List.length_nil, Nat.reduceAdd, Nat.reduceSub, Array.replicate_succ, Array.replicate_zero, List.push_toArray, List.append_toArray, List.nil_append, List.cons_append]
  gi_wp2_with (first
    | (refine ⟨trivial, ?_⟩; gi_at_call 7; (with_reducible refine (c1 _ w).mono ?_); rintro e w1 ⟨v1, rfl, hr1, hb1⟩; have HR1 := Lib.hid hr1; have HB1 := Lib.hid hb1; clear hr1 hb1)
    | (refine ⟨trivial, ?_⟩; gi_at_call 7; (with_reducible refine (c2 _ w1).mono ?_); rintro e w2 ⟨v2, rfl, hr2, hb2⟩; have HR2 := Lib.hid hr2; have HB2 := Lib.hid hb2; clear hr2 hb2)
    | (refine ⟨trivial, ?_⟩; gi_at_call 7; (with_reducible refine (c3 _ w2).mono ?_); rintro e w3 ⟨v3, rfl, hr3, hb3⟩; have HB3 := Lib.hid hb3; clear hr3 hb3)
    | (refine ⟨trivial, ?_⟩; gi_at_call 19; (with_reducible refine (callsIn_wide.2 (seq_calls _ _)).mono ?_); rintro e w' ⟨rfl, rfl⟩))
  have hW0 : Below w.heap.size w w3 := (HB1.out.trans (HB2.out.mono HB1.out.size)).trans (HB3.out.mono (Nat.le_trans HB1.out.size HB2.out.size))
  have hR1 : Kd.R k31 31 w3 w.heap.size (fun k => k ≠ w3.heap.size) v1 L1 := R_elder (Kd.R_below (Kd.R_below HR1.out HB2.out) HB3.out) (Nat.le_refl _)
  have hR2 : Kd.R k31 31 w3 w1.heap.size (fun k => k ≠ w3.heap.size) v2 L2 := R_elder (Kd.R_below HR2.out HB3.out) (Nat.le_refl _)
  have hb1 : w.heap.size ≤ w1.heap.size := HB1.out.size
  have hb2 : w1.heap.size ≤ w2.heap.size := HB2.out.size
  have hb3 : w2.heap.size ≤ w3.heap.size := HB3.out.size
  clear HR1 HR2 HB1 HB2 HB3
  obtain ⟨W5, hW5⟩ : ∃ W5, ((w3.alloc (Obj.cells #[Value.int IntKind.i64 0] 3)).alloc (Obj.cells #[Value.string ⟨#[40, 97, 32, 123, 98, 32, 40, 99, 125, 32, 100, 41]⟩] 9)) = W5 := ⟨_, rfl⟩
  have hal : W5.heap[w3.heap.size + 1]? = some (.cells #[.string ⟨#[40, 97, 32, 123, 98, 32, 40, 99, 125, 32, 100, 41]⟩] 9 (0, 0)) := by
    rw [← hW5]; have := blk_new (w3.alloc (Obj.cells #[Value.int IntKind.i64 0] 3)) (Obj.cells #[Value.string ⟨#[40, 97, 32, 123, 98, 32, 40, 99, 125, 32, 100, 41]⟩] 9); rw [World.size_alloc] at this; exact this
  have hbx : W5.heap[w3.heap.size]? = some (.cells #[.int .i64 0] 3 (0, 0)) := by rw [← hW5]; exact blk_alloc (blk_new w3 _) _
  have hb35 : Below w3.heap.size w3 W5 := by rw [← hW5]; exact ((Below.refl _ w3).alloc (Nat.le_refl _) _).alloc (by simp) _
  have hsz : W5.heap.size = w3.heap.size + 2 := by rw [← hW5]; simp
  rw [hW5]
  clear hW5
  have hR1' := Kd.R_below hR1 hb35
  have hR2' := Kd.R_below hR2 hb35
  have hb05 : Below w.heap.size w W5 := hW0.trans (hb35.mono (by omega))
  clear hR1 hR2
  obtain ⟨b, hbe⟩ : ∃ b, w3.heap.size = b := ⟨_, rfl⟩
  rw [hbe] at hal hbx hb35 hsz hR1' hR2' hb3 ⊢
  have hq := all1_stops ⟨#[40, 97, 32, 123, 98, 32, 40, 99, 125, 32, 100, 41]⟩ (by simp [ByteArray.size]) 4 (b + 1) w.heap.size L4 (-1) ⟨14, s4⟩ W5 hal
  refine wpIn_rangeFunc_ownH rfl (by omega) (gf := 54) (lb := #[.pointer (some ⟨b + 1, 0, none⟩)]) rfl trivial (enters_of Tryz.func54 (by kernel_rfl) rfl) hq belowK_t (belowK_b (by omega)) (Below.refl _ _) (fun _ => rfl)
    (fun pre W => W.heap[b]? = some (.cells #[.int .i64 pre.length] 3 (0, 0)) ∧ (Kd.R k31 31 W w.heap.size (fun k => k ≠ b) v1 L1 ∧ Kd.R k31 31 W w1.heap.size (fun k => k ≠ b) v2 L2) ∧ Below w.heap.size w W)
    (fun _ _ _ => False)
    (fun pre W W' row h hg hr => ⟨blk_own h.1 hg hr, ⟨R_own h.2.1.1 hg hr, R_own h.2.1.2 hg hr⟩, h.2.2.grown hg h.2.2.size (fun k e => Nat.le_trans hb05.size (hr k e).1)⟩)
    (fun _ _ _ _ _ h _ _ => h) ?start
    (fun x a' W => ∃ u : Nat → Value, a' = { tmps := (u 0 :: u 1 :: u 2 :: u 3 :: u 4 :: u 5 :: u 6 :: u 7 :: u 8 :: u 9 :: .pointer (some ⟨b, 0, none⟩) :: u 11 :: u 12 :: u 13 :: u 14 :: u 15 :: u 16 :: u 17 :: u 18 :: u 19 :: u 20 :: u 21 :: u 22 :: u 23 :: u 24 :: u 25 :: u 26 :: u 27 :: u 28 :: u 29 :: u 30 :: u 31 :: u 32 :: u 33 :: u 34 :: u 35 :: u 36 :: u 37 :: u 38 :: u 39 :: u 40 :: u 41 :: u 42 :: u 43 :: u 44 :: u 45 :: u 46 :: u 47 :: u 48 :: u 49 :: u 50 :: u 51 :: u 52 :: u 53 :: u 54 :: u 55 :: u 56 :: u 57 :: u 58 :: u 59 :: u 60 :: u 61 :: u 62 :: u 63 :: u 64 :: u 65 :: u 66 :: u 67 :: u 68 :: u 69 :: u 70 :: u 71 :: u 72 :: u 73 :: u 74 :: u 75 :: u 76 :: u 77 :: u 78 :: u 79 :: u 80 :: u 81 :: u 82 :: u 83 :: u 84 :: u 85 :: u 86 :: u 87 :: u 88 :: u 89 :: u 90 :: u 91 :: u 92 :: u 93 :: u 94 :: u 95 :: u 96 :: []).toArray, defers := [] })
    (fun x a' _ W W' row h hg hr => h) ?assign ?body ?done ?stop
  case start => exact ⟨by simpa using hbx, ⟨hR1', hR2'⟩, hb05⟩
  case assign =>
    rintro l pre x W K hi hK
    have HK := Lib.hid hK
    have HI := Lib.hid hi
    clear hK hi
    rw [fold1]
    simp only [List.setIfInBounds_toArray, List.set_cons_succ, List.set_cons_zero]
    gi_wp2
    refine HK.out _ _ ((KeepsOthers.refl _).from _) (Below.refl _ _) HI.out ⟨fun i => List.getD [_, _, _, _, _, _, _, _, _, _, undef, _, _, _, _, _, _, _, _, _, _, _, _, _, _, _, _, _, _, _, _, _, _, _, _, _, _, _, _, _, _, _, _, _, _, _, _, _, _, _, _, _, _, _, _, _, _, _, _, _, _, _, _, _, _, _, _, _, _, _, _, _, _, _, _, _, _, _, _, _, _, _, _, _, _, _, _, _, _, _, _, _, _, _, _, _, _] i undef, rfl⟩
  case body =>
    rintro l pre x a' W hl ⟨rr, hrr⟩ ⟨hi1, ⟨hi2, hi3⟩, hi4⟩ ⟨u, rfl⟩ hlt
    have hc := (blk_cell hi1 0).trans (show #[Value.int .i64 pre.length][0]? = some (.int .i64 pre.length) from rfl)
    have hf := blk_frozen hi1 0
    have hltb := blk_lt hi1
    have HI1 := Lib.hid hi1
    have HI2 := Lib.hid hi2
    have HI3 := Lib.hid hi3
    have HI4 := Lib.hid hi4
    have hn : ((pre.length : Nat) : Int) + 1 ≤ 5 := by have : L4.length = 5 := rfl; omega
    clear hi1 hi2 hi3 hi4 hrr
    gi_wp2
    refine ⟨(KeepsOthers.setCell _ _ _).from _, (Below.refl _ _).setCell (p := ⟨b, 0, none⟩) (by simp; omega) _, ?_, ⟨Kd.R_far (p := ⟨b, 0, none⟩) HI2.out (fun _ hk => hk) _, Kd.R_far (p := ⟨b, 0, none⟩) HI3.out (fun _ hk => hk) _⟩, HI4.out.setCell (p := ⟨b, 0, none⟩) (by simp; omega) _⟩
    have h := blk_put HI1.out 0 (.int .i64 ((pre.length : Int) + 1)) rfl
    rw [show ((pre ++ [x]).length : Int) = (pre.length : Int) + 1 by simp]
    exact h
  case done =>
    rintro D ys W hD rfl ⟨hi1, ⟨hi2, hi3⟩, hi4⟩ hK
    obtain ⟨A1, k1, hv1⟩ := Kd.R_slice hi2
    obtain ⟨A2, k2, hv2⟩ := Kd.R_slice hi3
    rw [show L1.length = 4 from rfl] at hv1
    rw [show L2.length = 7 from rfl] at hv2
    subst hv1 hv2
    have hq1 := Kd.R_reads' hi2
    have hq2 := Kd.R_reads' hi3
    have HI1 := Lib.hid hi1
    have HC1 := Lib.hid hq1.2.2
    have HC2 := Lib.hid hq2.2.2
    have hk1 := hq1.2.1
    have HI4 := Lib.hid hi4
    have HKK := Lib.hid hK
    clear hi1 hi2 hi3 hi4 hK hq1 hq2 hq
    gi_wp2_with (first
      | (refine ⟨trivial, ?_⟩; gi_at_call 20; (with_reducible refine (callsIn_wide.2 (q5 _)).mono ?_); rintro e w6 ⟨rfl, hb6⟩; have HB6 := Lib.hid hb6; clear hb6)
      | (refine ⟨trivial, ?_⟩; gi_at_call 8; (with_reducible refine (c19 _ w6 A1 k1 (Kd.C_below HC1.out HB6.out) hk1).mono ?_); rintro e w7' ⟨rfl, nd, rfl⟩
         have hB7 : Below W.heap.size W ((w6.alloc B8).drewN nd) := bdrew (HB6.out.alloc HB6.out.size _) nd
         obtain ⟨w7, hw7⟩ : ∃ w7, (w6.alloc B8).drewN nd = w7 := ⟨_, rfl⟩
         rw [hw7] at hB7 ⊢
         have hC2 := Kd.C_below HC2.out hB7
         have hc7 : w7.cell? ⟨b, 0, none⟩ = some (.int .i64 5) := (blk_cell (blk_below HI1.out hB7) 0).trans rfl
         obtain ⟨ad, e2, hx0, hx1, hx2⟩ := at_T31 hC2 4 (by decide) (by decide)
         subst e2
         obtain ⟨ad', e', hy0, hy1, hy2⟩ := at_T31 hC2 5 (by decide) (by decide)
         obtain rfl := Option.some.inj e'
         have HB7 := Lib.hid hB7
         have gx0 : w7.cell? ⟨ad.block, ad.off + 12, none⟩ = some (.int .i64 11) := hx0
         have gx1 : w7.cell? ⟨ad.block, ad.off + 12 + 1, none⟩ = some (.string ⟨#[33, 63]⟩) := hx1
         have gx2 : w7.cell? ⟨ad.block, ad.off + 12 + 2, none⟩ = some (.int .i64 8) := hx2
         have gy0 : w7.cell? ⟨ad.block, ad.off + 15, none⟩ = some (.int .i64 9) := hy0
         have gy1 : w7.cell? ⟨ad.block, ad.off + 15 + 1, none⟩ = some (.string ⟨#[49, 52]⟩) := hy1
         have gy2 : w7.cell? ⟨ad.block, ad.off + 15 + 2, none⟩ = some (.int .i64 11) := hy2
         clear e' hB7 hC2 hw7 hx0 hx1 hx2 hy0 hy1 hy2)
      | (refine ⟨trivial, ?_⟩; gi_at_call 12; (with_reducible refine (is1 _ w7).mono ?_); rintro e w8 ⟨rfl, hb8⟩; have HB8 := Lib.hid hb8; clear hb8)
      | (refine ⟨trivial, ?_⟩; gi_at_call 12; (with_reducible refine (is2 _ w8).mono ?_); rintro e w9 ⟨rfl, hb9⟩; have HB9 := Lib.hid hb9; clear hb9))
    have hB9 : Below W.heap.size W w9 := (HB7.out.trans (HB8.out.mono HB7.out.size)).trans (HB9.out.mono (Nat.le_trans HB7.out.size HB8.out.size))
    have hD9 : w9.heap[D]? = some (.deferred (some [])) := (hB9.block D (blk_lt HKK.out)).trans HKK.out
    refine ⟨by simp, .inl ⟨_, _, rfl, run_takeDeferred hD9, ?_⟩⟩
    refine ⟨_, results_tmp rfl _ _ _, rfl, ?_⟩
    have hB0 : Below w.heap.size w w9 := HI4.out.trans (hB9.mono HI4.out.size)
    exact hB0.grown (grownBy_putObj' w9 D (.deferred none)) hB0.size (fun k e => by cases e; have := hb05.size; omega)
  case stop =>
    rintro D c pre W hD _ h _
    exact h.elim
end Go.Proofs.YtlpoglkddknedaaGreatDoor.H


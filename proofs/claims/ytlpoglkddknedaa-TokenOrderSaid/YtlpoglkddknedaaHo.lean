/- TokenOrder answers true: the offsets increase, and loops that stop early see as many tokens as they ask for. Condition: the world has the library's own number at its first place. -/
import Derived.Test.YtlpoglkddknedaaPo
import Derived.Test.YtlpoglkddknedaaHw
namespace Go.Proofs.Ytlpoglkddknedaa.H
open Go.RowKit Go.Shelf Go.Proofs.Ytlpoglkddknedaa.T Go.Proofs.Ytlpoglkddknedaa.P Go.Proofs.YtlpoglkddknedaaW.PrintWords Go.Proofs.YtlpoglkddknedaaW.PrintLast Go.Proofs.YtlpoglkddknedaaW.PrintMore
attribute [local go_sem high] eqA40
attribute [local go_sem] Oper.semAt_some max2_int min2_int max_two min_two
set_option linter.unusedVariables false
set_option linter.unusedSimpArgs false

theorem eq_loop (l : List S40) (hl : l.length < 9223372036854775000) : ∀ (n j : Nat), l.length - j ≤ n → j ≤ l.length → Ev (fun k => token_Token.l0 k l l (l.length : Int) (j : Int)) true := by
  intro n
  induction n with
  | zero =>
    intro j hj hjl
    refine Ev.step (fun k => by rw [token_Token.l0]) ?_
    simp only [if_neg (show ¬ (j : Int) < (l.length : Int) by omega)]
    exact Ev.now _
  | succ n ih =>
    intro j hj hjl
    refine Ev.step (fun k => by rw [token_Token.l0]) ?_
    by_cases h : j < l.length
    · simp only [if_pos (show (j : Int) < (l.length : Int) by omega), if_pos (show (0 : Int) ≤ j by omega), step1 j (show j < 9223372036854775000 by omega)]
      have h3 : (!((rd_T40 l (j : Int)).f0 == (rd_T40 l (j : Int)).f0) || (!((rd_T40 l (j : Int)).f1.toList == (rd_T40 l (j : Int)).f1.toList) || !((rd_T40 l (j : Int)).f2 == (rd_T40 l (j : Int)).f2))) = false := by simp
      simp only [h3, Bool.false_eq_true, ↓reduceIte]
      exact ih (j + 1) (by omega) (by omega)
    · simp only [if_neg (show ¬ (j : Int) < (l.length : Int) by omega)]
      exact Ev.now _
theorem eq_self (l : List S40) (hl : l.length < 9223372036854775000) : ∃ k, token_Token.f k l l = some true := by
  refine Ev.rounds ?_
  unfold token_Token.f
  simp only [↓reduceIte]
  exact eq_loop l hl l.length 0 (by omega) (by omega)

theorem contains_calls (s x : ByteArray) (i : Int) (W : World) (m : Int) (hm : W.cell? ⟨0, 0, none⟩ = some (.int .i64 m)) (hc : Lib.contains ((D s).drop i.toNat) (D x) = true) (hs : s.size ≤ 500) :
    Calls Try.prog 20 #[.string (s.extract i.toNat s.size), .string x] W fun e w' => e = .returned (.bool true) ∧ w' = W := by
  have h := Try.strings_Contains (s.extract i.toNat s.size) x m W (by rw [ByteArray.size_extract]; omega) hm
  rw [show (s.extract i.toNat s.size).data.toList = (D s).drop i.toNat from ext_all s _, show Lib.contains ((D s).drop i.toNat) x.data.toList = true from hc] at h
  exact h
theorem cell_below2 {w w' : World} {v : Value} (hb : Below w.heap.size w w') (h : w.cell? ⟨0, 0, none⟩ = some v) : w'.cell? ⟨0, 0, none⟩ = w.cell? ⟨0, 0, none⟩ := by
  refine World.cell?_of_block (hb.block 0 ?_)
  by_cases h0 : 0 < w.heap.size
  · exact h0
  · have hn : w.heap[0]? = none := Array.getElem?_eq_none (by omega)
    simp [World.cell?, hn] at h
theorem cell_below {w w' : World} {v : Value} (hb : Below w.heap.size w w') (h : w.cell? ⟨0, 0, none⟩ = some v) : w'.cell? ⟨0, 0, none⟩ = w.cell? ⟨0, 0, none⟩ := by
  refine World.cell?_of_block (hb.block 0 ?_)
  by_cases h0 : 0 < w.heap.size
  · exact h0
  · have hn : w.heap[0]? = none := Array.getElem?_eq_none (by omega)
    simp [World.cell?, hn] at h

set_option maxHeartbeats 4000000 in
set_option maxRecDepth 100000 in
theorem order_calls (s : ByteArray) (stop : Int) (h0 : 0 ≤ stop) (h1 : stop ≤ 255) (w : World) (m : Int) (hm : w.cell? ⟨0, 0, none⟩ = some (.int .i64 m)) :
    Calls Try.prog 6 #[.string s, .int .u8 stop] w fun e w' => e = .returned (.bool true) ∧ Below w.heap.size w w' := by
  by_cases hbig : 500 < s.size
  · have a1 : (500 : Int) < s.size := by omega
    go_enter Try.func6, Try.ntmps6
    go_wp2_with (go_at_call 7; (with_reducible refine (works_calls _).mono ?_); rintro e w1 ⟨rfl, hb⟩; have HB := Lib.hid hb; clear hb)
    go_ret
    exact ⟨rfl, (show Below w.heap.size w (w.alloc _) from (Below.refl _ w).alloc (Nat.le_refl _) _).trans (HB.out.mono (by simp))⟩
  · have a1 : (s.size : Int) ≤ 500 := by omega
    obtain ⟨toks, R, e1, e2, e3, _⟩ := scan_both s (by omega) (s.size + 1) 0 (by omega) (by omega)
    have hgood := scan_good s (by omega) _ 0 toks R (by omega) e1
    obtain ⟨kk, hkk⟩ := eq_self toks (by omega)
    have hY : yieldF s = some toks := by
      unfold yieldF
      rw [if_pos (by omega), show (0 : Int) = ((0 : Nat) : Int) from rfl, e1, Option.bind_some, if_pos (show toks.length ≤ s.size ∧ (toks.length + 1) * 32 ≤ 140737488355328 from ⟨by omega, by omega⟩)]
    have hF : scanF s = if 0 ≤ R then some ([], R, 8) else some (toks, 0, 0) := by
      unfold scanF
      rw [if_pos (by omega), show (0 : Int) = ((0 : Nat) : Int) from rfl, e1, Option.bind_some, if_pos (show toks.length * 32 ≤ 140737488355328 by omega)]
    have HG := Lib.hid hgood
    have HY := Lib.hid hY
    have HE1 := Lib.hid e1
    have HM := Lib.hid hm
    have HK := Lib.hid hkk
    clear hgood hY e1 hm hkk hbig
    by_cases hR : 0 ≤ R
    · rw [if_pos hR] at hF
      have hR2 : R < s.size := by omega
      have HF := Lib.hid hF
      clear hF e2
      refine (callsIn_wide (n := 5)).1 ?_
      refine callsIn_of_wp_marks Try.func6 rfl trivial (wpIn_wide.2 ?_) rfl
      simp only [Try.ntmps6, List.size_toArray, List.length_cons, List.length_nil, Nat.reduceAdd, Nat.reduceSub, Array.replicate_succ, Array.replicate_zero, List.push_toArray, List.append_toArray, List.nil_append, List.cons_append]
      go_wp2_with (first
        | (go_at_call 8; (with_reducible refine (Scan_calls _ _ _ _ _ HF.out).mono ?_); rintro e w1 ⟨v1, rfl, hr1, hb1⟩; obtain ⟨A1, k1, rfl⟩ := Kd.R_slice hr1; have HR1 := Lib.hid hr1; have HB1 := Lib.hid hb1; clear hr1 hb1; simp only [List.length_nil])
        | (go_at_call 11; (with_reducible refine (yielded_calls _ _ w1 HY.out).mono ?_); rintro e w2 ⟨v2, rfl, hr2, hb2⟩; obtain ⟨A2, k2, rfl⟩ := Kd.R_slice hr2; have HR2 := Lib.hid hr2; have HB2 := Lib.hid hb2; clear hr2 hb2))
      have hsz0 : (w.alloc (Obj.cells #[Value.int IntKind.u8 stop] 5)).heap.size = w.heap.size + 1 := by simp
      have hB02 : Below w.heap.size w w2 := ((show Below w.heap.size w (w.alloc _) from (Below.refl _ w).alloc (Nat.le_refl _) _).trans (HB1.out.mono (by simp))).trans (HB2.out.mono (by have := HB1.out.size; omega))
      have hw2 : w.heap.size + 1 ≤ w2.heap.size := by have := HB1.out.size; have := HB2.out.size; omega
      have hbs : w2.heap[w.heap.size]? = some (.cells #[.int .u8 stop] 5 (0, 0)) := blk_below (blk_below (blk_new w _) HB1.out) HB2.out
      have hC := (Kd.R_reads' HR2.out).2.2
      have hm2 : w2.cell? ⟨0, 0, none⟩ = some (.int .i64 m) := (cell_below hB02 HM.out).trans HM.out
      have HC := Lib.hid hC
      have HB02 := Lib.hid hB02
      have HBS := Lib.hid hbs
      have HM2 := Lib.hid hm2
      clear hsz0 hB02 hbs hC hm2 HB1 HB2 HR2
      go_loopw [9, 62] (fun v9 v62 wr => ∃ (j : Nat) (lo : Int), j ≤ toks.length ∧ v62 = .int .i64 j ∧ v9 = .int .i64 lo ∧ 0 ≤ lo ∧ good s R lo (toks.drop j) ∧ Below w2.heap.size w2 wr) (fun _ v62 _ => toks.length - (Go.RowKit.intOf v62).toNat)
      case atStart => exact ⟨0, 0, Nat.zero_le _, rfl, rfl, by decide, HG.out, by first | exact Below.refl _ _ | (rw [← HW3.out]; exact bdrew (Below.refl _ _) nd) | (rw [HW3.out]; exact bdrew (Below.refl _ _) nd)⟩
      case round =>
        obtain ⟨j, lo, hj, rfl, rfl, hlo, hg, hb⟩ := hrel
        by_cases hlt : j < toks.length
        · have hd : toks.drop j = toks[j] :: toks.drop (j + 1) := List.drop_eq_getElem_cons hlt
          rw [hd] at hg
          obtain ⟨ad, ea, hx0, hx1, hx2⟩ := at_T40 (Kd.C_below HC.out hb) (j : Int) (by omega) (by omega)
          have hrd : rd_T40 toks (j : Int) = toks[j] := by unfold rd_T40; simp [hlt]
          rw [hrd] at hx0 hx1 hx2
          obtain ⟨x, hx⟩ : ∃ x, toks[j] = x := ⟨_, rfl⟩
          rw [hx] at hg hx0 hx1 hx2
          subst ea
          obtain ⟨g1, g2, g3, g4', g5, g6, g7⟩ := hg
          have g0 : 0 ≤ x.f2 := by omega
          have g4 : x.f2 < s.size := by omega
          have G4 := Lib.hid g4'
          clear g4'
          have HG7 := Lib.hid g7
          have HG6 := Lib.hid g6
          have HBB := Lib.hid hb
          clear g7 g6 hb hd hrd hx
          rw [Int.toNat_natCast] at hx0 hx1 hx2
          have hl1 := HBB.out.size
          have hm3 : wr.cell? ⟨0, 0, none⟩ = some (.int .i64 m) := (cell_below2 HBB.out HM2.out).trans HM2.out
          have HM3 := Lib.hid hm3
          clear hm3
          by_cases hf : x.f0 = 1
          · have hf1 : (x.f0 != 1) = false := by rw [hf]; rfl
            by_cases hz : (x.f1.size : Int) < 1
            · go_wp2
              go_quiet (fail)
              go_wp2
              go_roundw
              case measure => simp [Go.RowKit.intOf]; omega
              case rel => exact ⟨j + 1, x.f2 + (max x.f1.size 1 : Nat), by omega, by first | rfl | go_num, by have := G4.out; first | (congr 1; omega) | (rw [wrap_id (by omega) (by omega)]; congr 1; omega), by omega, HG7.out, bdrew (HBB.out.alloc hl1 _) _⟩
            · go_wp2
              go_quiet (fail)
              go_wp2
              go_roundw
              case measure => simp [Go.RowKit.intOf]; omega
              case rel => exact ⟨j + 1, x.f2 + (max x.f1.size 1 : Nat), by omega, by first | rfl | go_num, by have := G4.out; first | (congr 1; omega) | (rw [wrap_id (by omega) (by omega)]; congr 1; omega), by omega, HG7.out, bdrew (HBB.out.alloc hl1 _) _⟩
          · have hf1 : (x.f0 != 1) = true := by rw [bne_iff_ne]; exact hf
            have HCT := Lib.hid (HG6.out.resolve_left hf)
            by_cases hz : (x.f1.size : Int) < 1
            · go_wp2
              go_quiet (first | (go_at_call 20; refine Calls.quiet_of_same (contains_calls s x.f1 x.f2 _ m (by first | exact HM3.out | exact (cell_below2 (bdrew ((Below.refl _ _).alloc (Nat.le_refl _) _) _) HM3.out).trans HM3.out) HCT.out (by omega))))
              go_wp2
              go_roundw
              case measure => simp [Go.RowKit.intOf]; omega
              case rel => exact ⟨j + 1, x.f2 + (max x.f1.size 1 : Nat), by omega, by first | rfl | go_num, by have := G4.out; first | (congr 1; omega) | (rw [wrap_id (by omega) (by omega)]; congr 1; omega), by omega, HG7.out, bdrew (HBB.out.alloc hl1 _) _⟩
            · go_wp2
              go_quiet (first | (go_at_call 20; refine Calls.quiet_of_same (contains_calls s x.f1 x.f2 _ m (by first | exact HM3.out | exact (cell_below2 (bdrew ((Below.refl _ _).alloc (Nat.le_refl _) _) _) HM3.out).trans HM3.out) HCT.out (by omega))))
              go_wp2
              go_roundw
              case measure => simp [Go.RowKit.intOf]; omega
              case rel => exact ⟨j + 1, x.f2 + (max x.f1.size 1 : Nat), by omega, by first | rfl | go_num, by have := G4.out; first | (congr 1; omega) | (rw [wrap_id (by omega) (by omega)]; congr 1; omega), by omega, HG7.out, bdrew (HBB.out.alloc hl1 _) _⟩
        · obtain rfl : j = toks.length := by omega
          have HBB := Lib.hid hb
          clear hb hg
          go_wp2_with (go_at_call 21; (with_reducible refine (seq_calls _ _).mono ?_); rintro e w' ⟨rfl, rfl⟩)
          have hw3 : w.heap.size + 1 ≤ wr.heap.size := Nat.le_trans hw2 HBB.out.size
          have hbsr : wr.heap[w.heap.size]? = some (.cells #[.int .u8 stop] 5 (0, 0)) := blk_below HBS.out HBB.out
          have hB0r : Below w.heap.size w wr := HB02.out.trans (HBB.out.mono (by omega))
          obtain ⟨W5, hW5⟩ : ∃ W5, ((wr.alloc (Obj.cells #[Value.int IntKind.i64 0] 3)).alloc (Obj.cells #[Value.string s] 9)) = W5 := ⟨_, rfl⟩
          have hal : W5.heap[wr.heap.size + 1]? = some (.cells #[.string s] 9 (0, 0)) := by
            rw [← hW5]; have := blk_new (wr.alloc (Obj.cells #[Value.int IntKind.i64 0] 3)) (Obj.cells #[Value.string s] 9); rw [World.size_alloc] at this; exact this
          have hbx : W5.heap[wr.heap.size]? = some (.cells #[.int .i64 0] 3 (0, 0)) := by rw [← hW5]; exact blk_alloc (blk_new wr _) _
          have hbs5 : W5.heap[w.heap.size]? = some (.cells #[.int .u8 stop] 5 (0, 0)) := by rw [← hW5]; exact blk_alloc (blk_alloc hbsr _) _
          have hsz : W5.heap.size = wr.heap.size + 2 := by rw [← hW5]; simp
          have hb05 : Below w.heap.size w W5 := by rw [← hW5]; exact (hB0r.alloc (by omega) _).alloc (by simp; omega) _
          rw [hW5]
          clear hW5 hbsr hB0r
          obtain ⟨b, hbe⟩ : ∃ b, wr.heap.size = b := ⟨_, rfl⟩
          obtain ⟨bs, hbse⟩ : ∃ bs, w.heap.size = bs := ⟨_, rfl⟩
          rw [hbe] at hal hbx hsz hw3 ⊢
          rw [hbse] at hbs5 hw3 ⊢
          have hq := all1_stops s (by omega) 4 (b + 1) w.heap.size toks R ⟨_, HE1.out⟩ W5 hal
          rw [hbse] at hq
          refine (wpIn_wide (n := 5)).1 ?_
          refine wpIn_rangeFunc_ownH rfl (by omega) (gf := 40) (lb := #[.pointer (some ⟨b + 1, 0, none⟩)]) rfl trivial (enters_of Try.func40 (by kernel_rfl) rfl) hq belowK_t (belowK_b (by omega)) (Below.refl _ _) (fun _ => rfl)
            (fun pre W => W.heap[b]? = some (.cells #[.int .i64 pre.length] 3 (0, 0)) ∧ (pre.length : Int) ≤ stop ∧ W.heap[bs]? = some (.cells #[.int .u8 stop] 5 (0, 0)) ∧ Below w.heap.size w W)
            (fun c pre W => c = .exit 2 ∧ stop < pre.length ∧ W.heap[b]? = some (.cells #[.int .i64 stop] 3 (0, 0)) ∧ W.heap[bs]? = some (.cells #[.int .u8 stop] 5 (0, 0)) ∧ Below w.heap.size w W)
            (fun pre W W' row h hg hr => ⟨blk_own h.1 hg hr, h.2.1, blk_own h.2.2.1 hg hr, h.2.2.2.grown hg h.2.2.2.size (fun k e => Nat.le_trans hb05.size (hr k e).1)⟩)
            (fun c pre W W' row h hg hr => ⟨h.1, h.2.1, blk_own h.2.2.1 hg hr, blk_own h.2.2.2.1 hg hr, h.2.2.2.2.grown hg h.2.2.2.2.size (fun k e => Nat.le_trans hb05.size (hr k e).1)⟩) ?start
            (fun x a' W => ∃ u : Nat → Value, a' = { tmps := (u 0 :: u 1 :: u 2 :: .pointer (some ⟨bs, 0, none⟩) :: u 4 :: u 5 :: u 6 :: u 7 :: u 8 :: u 9 :: u 10 :: u 11 :: .pointer (some ⟨b, 0, none⟩) :: u 13 :: u 14 :: u 15 :: u 16 :: u 17 :: u 18 :: u 19 :: u 20 :: u 21 :: u 22 :: u 23 :: u 24 :: u 25 :: u 26 :: u 27 :: u 28 :: u 29 :: u 30 :: u 31 :: u 32 :: u 33 :: u 34 :: u 35 :: u 36 :: u 37 :: u 38 :: u 39 :: u 40 :: u 41 :: u 42 :: u 43 :: u 44 :: u 45 :: u 46 :: u 47 :: u 48 :: u 49 :: u 50 :: u 51 :: u 52 :: u 53 :: u 54 :: u 55 :: u 56 :: u 57 :: u 58 :: u 59 :: u 60 :: u 61 :: u 62 :: u 63 :: u 64 :: u 65 :: u 66 :: u 67 :: u 68 :: u 69 :: u 70 :: u 71 :: u 72 :: u 73 :: u 74 :: u 75 :: u 76 :: u 77 :: u 78 :: u 79 :: u 80 :: u 81 :: u 82 :: u 83 :: u 84 :: u 85 :: u 86 :: u 87 :: u 88 :: u 89 :: u 90 :: u 91 :: u 92 :: u 93 :: u 94 :: u 95 :: u 96 :: u 97 :: u 98 :: u 99 :: u 100 :: u 101 :: u 102 :: u 103 :: u 104 :: u 105 :: u 106 :: u 107 :: u 108 :: u 109 :: u 110 :: u 111 :: u 112 :: u 113 :: u 114 :: u 115 :: u 116 :: u 117 :: u 118 :: u 119 :: u 120 :: u 121 :: u 122 :: u 123 :: u 124 :: u 125 :: u 126 :: u 127 :: u 128 :: u 129 :: u 130 :: u 131 :: u 132 :: u 133 :: u 134 :: u 135 :: u 136 :: []).toArray, defers := [] })
            (fun x a' _ W W' row h hg hr => h) ?assign ?body ?done ?stop
          case start => exact ⟨by simpa using hbx, by simpa using h0, hbs5, hb05⟩
          case assign =>
            rintro l pre x W K hi hK
            have HK := Lib.hid hK
            have HI := Lib.hid hi
            clear hK hi
            rw [fold1]
            simp only [List.setIfInBounds_toArray, List.set_cons_succ, List.set_cons_zero]
            gi_wp2
            refine HK.out _ _ ((KeepsOthers.refl _).from _) (Below.refl _ _) HI.out ⟨fun i => List.getD [_, _, _, undef, _, _, _, _, _, _, _, _, undef, _, _, _, _, _, _, _, _, _, _, _, _, _, _, _, _, _, _, _, _, _, _, _, _, _, _, _, _, _, _, _, _, _, _, _, _, _, _, _, _, _, _, _, _, _, _, _, _, _, _, _, _, _, _, _, _, _, _, _, _, _, _, _, _, _, _, _, _, _, _, _, _, _, _, _, _, _, _, _, _, _, _, _, _, _, _, _, _, _, _, _, _, _, _, _, _, _, _, _, _, _, _, _, _, _, _, _, _, _, _, _, _, _, _, _, _, _, _, _, _, _, _, _, _] i undef, rfl⟩
          case body =>
            rintro l pre x a' W hl ⟨rr, hrr⟩ ⟨hi1, hi2, hi3, hi4⟩ ⟨u, rfl⟩ hlt
            have hc := (blk_cell hi1 0).trans (show #[Value.int .i64 pre.length][0]? = some (.int .i64 pre.length) from rfl)
            have hf := blk_frozen hi1 0
            have hc2 := (blk_cell hi3 0).trans (show #[Value.int .u8 stop][0]? = some (.int .u8 stop) from rfl)
            have hltb := blk_lt hi1
            have HI1 := Lib.hid hi1
            have HI3 := Lib.hid hi3
            have HI4 := Lib.hid hi4
            have hn : ((pre.length : Nat) : Int) + 1 ≤ 1000 := by omega
            clear hi1 hi3 hi4 hrr
            by_cases heq : (pre.length : Int) = stop
            · have hb1 : ((pre.length : Int) == stop) = true := beq_iff_eq.2 heq
              gi_wp2
              refine ⟨(KeepsOthers.refl _).from _, rfl, by simp; omega, by rw [← heq]; exact HI1.out, HI3.out, HI4.out⟩
            · have hb1 : ((pre.length : Int) == stop) = false := beq_eq_false_iff_ne.2 heq
              gi_wp2
              refine ⟨(KeepsOthers.setCell _ _ _).from _, (Below.refl _ _).setCell (p := ⟨b, 0, none⟩) (by simp; omega) _, ?_, by simp; omega, blk_far HI3.out (p := ⟨b, 0, none⟩) (by simp; omega) _, HI4.out.setCell (p := ⟨b, 0, none⟩) (by simp; omega) _⟩
              have h := blk_put HI1.out 0 (.int .i64 ((pre.length : Int) + 1)) rfl
              rw [show ((pre ++ [x]).length : Int) = (pre.length : Int) + 1 by simp]
              exact h
          case done =>
            rintro D ys W hD rfl ⟨hi1, hi2, hi3, hi4⟩ hK
            have hmin : min (ys.length : Int) stop = ys.length := by omega
            have hc := (blk_cell hi1 0).trans (show #[Value.int .i64 ys.length][0]? = some (.int .i64 ys.length) from rfl)
            have hc2 := (blk_cell hi3 0).trans (show #[Value.int .u8 stop][0]? = some (.int .u8 stop) from rfl)
            have HI4 := Lib.hid hi4
            have HKK := Lib.hid hK
            clear hi1 hi3 hi4 hK hq
            go_wp2_with (go_at_call 7; (with_reducible refine (works_calls _).mono ?_); rintro e w9 ⟨rfl, hb9⟩; have HB9 := Lib.hid hb9; clear hb9)
            have hD9 : w9.heap[D]? = some (.deferred (some [])) := (HB9.out.block D (blk_lt HKK.out)).trans HKK.out
            refine ⟨by simp, .inl ⟨_, _, rfl, run_takeDeferred hD9, ?_⟩⟩
            refine ⟨_, results_tmp rfl _ _ _, rfl, ?_⟩
            have hB0 : Below w.heap.size w w9 := HI4.out.trans (HB9.out.mono HI4.out.size)
            exact hB0.grown (grownBy_putObj' w9 D (.deferred none)) hB0.size (fun k e => by cases e; have := hb05.size; omega)
          case stop =>
            rintro D c pre W hD hpre ⟨rfl, hi2, hi1, hi3, hi4⟩ hK
            have hple : pre.length ≤ toks.length := hpre.length_le
            have hmin : min (toks.length : Int) stop = stop := by omega
            have hc := (blk_cell hi1 0).trans (show #[Value.int .i64 stop][0]? = some (.int .i64 stop) from rfl)
            have hc2 := (blk_cell hi3 0).trans (show #[Value.int .u8 stop][0]? = some (.int .u8 stop) from rfl)
            have HI4 := Lib.hid hi4
            have HKK := Lib.hid hK
            clear hi1 hi3 hi4 hK hq hpre
            gi_wp2
            go_wp2_with (go_at_call 7; (with_reducible refine (works_calls _).mono ?_); rintro e w9 ⟨rfl, hb9⟩; have HB9 := Lib.hid hb9; clear hb9)
            have hD9 : w9.heap[D]? = some (.deferred (some [])) := (HB9.out.block D (blk_lt HKK.out)).trans HKK.out
            refine ⟨by simp, .inl ⟨_, _, rfl, run_takeDeferred hD9, ?_⟩⟩
            refine ⟨_, results_tmp rfl _ _ _, rfl, ?_⟩
            have hB0 : Below w.heap.size w w9 := HI4.out.trans (HB9.out.mono HI4.out.size)
            exact hB0.grown (grownBy_putObj' w9 D (.deferred none)) hB0.size (fun k e => by cases e; have := hb05.size; omega)
    · rw [if_neg hR] at hF
      have hRl : R < 0 := by omega
      have HF := Lib.hid hF
      clear hF e2
      refine (callsIn_wide (n := 5)).1 ?_
      refine callsIn_of_wp_marks Try.func6 rfl trivial (wpIn_wide.2 ?_) rfl
      simp only [Try.ntmps6, List.size_toArray, List.length_cons, List.length_nil, Nat.reduceAdd, Nat.reduceSub, Array.replicate_succ, Array.replicate_zero, List.push_toArray, List.append_toArray, List.nil_append, List.cons_append]
      go_wp2_with (first
        | (go_at_call 8; (with_reducible refine (Scan_calls _ _ _ _ _ HF.out).mono ?_); rintro e w1 ⟨v1, rfl, hr1, hb1⟩; obtain ⟨A1, k1, rfl⟩ := Kd.R_slice hr1; have HR1 := Lib.hid hr1; have HB1 := Lib.hid hb1; clear hr1 hb1)
        | (go_at_call 11; (with_reducible refine (yielded_calls _ _ w1 HY.out).mono ?_); rintro e w2 ⟨v2, rfl, hr2, hb2⟩; obtain ⟨A2, k2, rfl⟩ := Kd.R_slice hr2; have HR2 := Lib.hid hr2; have HB2 := Lib.hid hb2; clear hr2 hb2)
        | (go_at_call 19; (with_reducible refine (token_Token.calls kk A2 k2 toks A1 k1 toks true w2 (Kd.R_reads' HR2.out).2.2 (Kd.R_reads' HR2.out).2.1 (Kd.C_below (Kd.R_reads' HR1.out).2.2 HB2.out) (Kd.R_reads' HR1.out).2.1 HK.out).mono ?_); rintro e w3 ⟨rfl, nd, hw3⟩; have HW3 := Lib.hid hw3; clear hw3))
      have hsz0 : (w.alloc (Obj.cells #[Value.int IntKind.u8 stop] 5)).heap.size = w.heap.size + 1 := by simp
      have hB02 : Below w.heap.size w w2 := ((show Below w.heap.size w (w.alloc _) from (Below.refl _ w).alloc (Nat.le_refl _) _).trans (HB1.out.mono (by simp))).trans (HB2.out.mono (by have := HB1.out.size; omega))
      have hw2 : w.heap.size + 1 ≤ w2.heap.size := by have := HB1.out.size; have := HB2.out.size; omega
      have hbs : w2.heap[w.heap.size]? = some (.cells #[.int .u8 stop] 5 (0, 0)) := blk_below (blk_below (blk_new w _) HB1.out) HB2.out
      have hC := (Kd.R_reads' HR2.out).2.2
      have hm2 : w2.cell? ⟨0, 0, none⟩ = some (.int .i64 m) := (cell_below hB02 HM.out).trans HM.out
      have HC := Lib.hid hC
      have HB02 := Lib.hid hB02
      have HBS := Lib.hid hbs
      have HM2 := Lib.hid hm2
      clear hsz0 hB02 hbs hC hm2 HB1 HB2 HR2
      go_loopw [9, 62] (fun v9 v62 wr => ∃ (j : Nat) (lo : Int), j ≤ toks.length ∧ v62 = .int .i64 j ∧ v9 = .int .i64 lo ∧ 0 ≤ lo ∧ good s R lo (toks.drop j) ∧ Below w2.heap.size w2 wr) (fun _ v62 _ => toks.length - (Go.RowKit.intOf v62).toNat)
      case atStart => exact ⟨0, 0, Nat.zero_le _, rfl, rfl, by decide, HG.out, by first | exact Below.refl _ _ | (rw [← HW3.out]; exact bdrew (Below.refl _ _) nd) | (rw [HW3.out]; exact bdrew (Below.refl _ _) nd)⟩
      case round =>
        obtain ⟨j, lo, hj, rfl, rfl, hlo, hg, hb⟩ := hrel
        by_cases hlt : j < toks.length
        · have hd : toks.drop j = toks[j] :: toks.drop (j + 1) := List.drop_eq_getElem_cons hlt
          rw [hd] at hg
          obtain ⟨ad, ea, hx0, hx1, hx2⟩ := at_T40 (Kd.C_below HC.out hb) (j : Int) (by omega) (by omega)
          have hrd : rd_T40 toks (j : Int) = toks[j] := by unfold rd_T40; simp [hlt]
          rw [hrd] at hx0 hx1 hx2
          obtain ⟨x, hx⟩ : ∃ x, toks[j] = x := ⟨_, rfl⟩
          rw [hx] at hg hx0 hx1 hx2
          subst ea
          obtain ⟨g1, g2, g3, g4', g5, g6, g7⟩ := hg
          have g0 : 0 ≤ x.f2 := by omega
          have g4 : x.f2 < s.size := by omega
          have G4 := Lib.hid g4'
          clear g4'
          have HG7 := Lib.hid g7
          have HG6 := Lib.hid g6
          have HBB := Lib.hid hb
          clear g7 g6 hb hd hrd hx
          rw [Int.toNat_natCast] at hx0 hx1 hx2
          have hl1 := HBB.out.size
          have hm3 : wr.cell? ⟨0, 0, none⟩ = some (.int .i64 m) := (cell_below2 HBB.out HM2.out).trans HM2.out
          have HM3 := Lib.hid hm3
          clear hm3
          by_cases hf : x.f0 = 1
          · have hf1 : (x.f0 != 1) = false := by rw [hf]; rfl
            by_cases hz : (x.f1.size : Int) < 1
            · go_wp2
              go_quiet (fail)
              go_wp2
              go_roundw
              case measure => simp [Go.RowKit.intOf]; omega
              case rel => exact ⟨j + 1, x.f2 + (max x.f1.size 1 : Nat), by omega, by first | rfl | go_num, by have := G4.out; first | (congr 1; omega) | (rw [wrap_id (by omega) (by omega)]; congr 1; omega), by omega, HG7.out, bdrew (HBB.out.alloc hl1 _) _⟩
            · go_wp2
              go_quiet (fail)
              go_wp2
              go_roundw
              case measure => simp [Go.RowKit.intOf]; omega
              case rel => exact ⟨j + 1, x.f2 + (max x.f1.size 1 : Nat), by omega, by first | rfl | go_num, by have := G4.out; first | (congr 1; omega) | (rw [wrap_id (by omega) (by omega)]; congr 1; omega), by omega, HG7.out, bdrew (HBB.out.alloc hl1 _) _⟩
          · have hf1 : (x.f0 != 1) = true := by rw [bne_iff_ne]; exact hf
            have HCT := Lib.hid (HG6.out.resolve_left hf)
            by_cases hz : (x.f1.size : Int) < 1
            · go_wp2
              go_quiet (first | (go_at_call 20; refine Calls.quiet_of_same (contains_calls s x.f1 x.f2 _ m (by first | exact HM3.out | exact (cell_below2 (bdrew ((Below.refl _ _).alloc (Nat.le_refl _) _) _) HM3.out).trans HM3.out) HCT.out (by omega))))
              go_wp2
              go_roundw
              case measure => simp [Go.RowKit.intOf]; omega
              case rel => exact ⟨j + 1, x.f2 + (max x.f1.size 1 : Nat), by omega, by first | rfl | go_num, by have := G4.out; first | (congr 1; omega) | (rw [wrap_id (by omega) (by omega)]; congr 1; omega), by omega, HG7.out, bdrew (HBB.out.alloc hl1 _) _⟩
            · go_wp2
              go_quiet (first | (go_at_call 20; refine Calls.quiet_of_same (contains_calls s x.f1 x.f2 _ m (by first | exact HM3.out | exact (cell_below2 (bdrew ((Below.refl _ _).alloc (Nat.le_refl _) _) _) HM3.out).trans HM3.out) HCT.out (by omega))))
              go_wp2
              go_roundw
              case measure => simp [Go.RowKit.intOf]; omega
              case rel => exact ⟨j + 1, x.f2 + (max x.f1.size 1 : Nat), by omega, by first | rfl | go_num, by have := G4.out; first | (congr 1; omega) | (rw [wrap_id (by omega) (by omega)]; congr 1; omega), by omega, HG7.out, bdrew (HBB.out.alloc hl1 _) _⟩
        · obtain rfl : j = toks.length := by omega
          have HBB := Lib.hid hb
          clear hb hg
          go_wp2_with (go_at_call 21; (with_reducible refine (seq_calls _ _).mono ?_); rintro e w' ⟨rfl, rfl⟩)
          have hw3 : w.heap.size + 1 ≤ wr.heap.size := Nat.le_trans hw2 HBB.out.size
          have hbsr : wr.heap[w.heap.size]? = some (.cells #[.int .u8 stop] 5 (0, 0)) := blk_below HBS.out HBB.out
          have hB0r : Below w.heap.size w wr := HB02.out.trans (HBB.out.mono (by omega))
          obtain ⟨W5, hW5⟩ : ∃ W5, ((wr.alloc (Obj.cells #[Value.int IntKind.i64 0] 3)).alloc (Obj.cells #[Value.string s] 9)) = W5 := ⟨_, rfl⟩
          have hal : W5.heap[wr.heap.size + 1]? = some (.cells #[.string s] 9 (0, 0)) := by
            rw [← hW5]; have := blk_new (wr.alloc (Obj.cells #[Value.int IntKind.i64 0] 3)) (Obj.cells #[Value.string s] 9); rw [World.size_alloc] at this; exact this
          have hbx : W5.heap[wr.heap.size]? = some (.cells #[.int .i64 0] 3 (0, 0)) := by rw [← hW5]; exact blk_alloc (blk_new wr _) _
          have hbs5 : W5.heap[w.heap.size]? = some (.cells #[.int .u8 stop] 5 (0, 0)) := by rw [← hW5]; exact blk_alloc (blk_alloc hbsr _) _
          have hsz : W5.heap.size = wr.heap.size + 2 := by rw [← hW5]; simp
          have hb05 : Below w.heap.size w W5 := by rw [← hW5]; exact (hB0r.alloc (by omega) _).alloc (by simp; omega) _
          rw [hW5]
          clear hW5 hbsr hB0r
          obtain ⟨b, hbe⟩ : ∃ b, wr.heap.size = b := ⟨_, rfl⟩
          obtain ⟨bs, hbse⟩ : ∃ bs, w.heap.size = bs := ⟨_, rfl⟩
          rw [hbe] at hal hbx hsz hw3 ⊢
          rw [hbse] at hbs5 hw3 ⊢
          have hq := all1_stops s (by omega) 4 (b + 1) w.heap.size toks R ⟨_, HE1.out⟩ W5 hal
          rw [hbse] at hq
          refine (wpIn_wide (n := 5)).1 ?_
          refine wpIn_rangeFunc_ownH rfl (by omega) (gf := 40) (lb := #[.pointer (some ⟨b + 1, 0, none⟩)]) rfl trivial (enters_of Try.func40 (by kernel_rfl) rfl) hq belowK_t (belowK_b (by omega)) (Below.refl _ _) (fun _ => rfl)
            (fun pre W => W.heap[b]? = some (.cells #[.int .i64 pre.length] 3 (0, 0)) ∧ (pre.length : Int) ≤ stop ∧ W.heap[bs]? = some (.cells #[.int .u8 stop] 5 (0, 0)) ∧ Below w.heap.size w W)
            (fun c pre W => c = .exit 2 ∧ stop < pre.length ∧ W.heap[b]? = some (.cells #[.int .i64 stop] 3 (0, 0)) ∧ W.heap[bs]? = some (.cells #[.int .u8 stop] 5 (0, 0)) ∧ Below w.heap.size w W)
            (fun pre W W' row h hg hr => ⟨blk_own h.1 hg hr, h.2.1, blk_own h.2.2.1 hg hr, h.2.2.2.grown hg h.2.2.2.size (fun k e => Nat.le_trans hb05.size (hr k e).1)⟩)
            (fun c pre W W' row h hg hr => ⟨h.1, h.2.1, blk_own h.2.2.1 hg hr, blk_own h.2.2.2.1 hg hr, h.2.2.2.2.grown hg h.2.2.2.2.size (fun k e => Nat.le_trans hb05.size (hr k e).1)⟩) ?start
            (fun x a' W => ∃ u : Nat → Value, a' = { tmps := (u 0 :: u 1 :: u 2 :: .pointer (some ⟨bs, 0, none⟩) :: u 4 :: u 5 :: u 6 :: u 7 :: u 8 :: u 9 :: u 10 :: u 11 :: .pointer (some ⟨b, 0, none⟩) :: u 13 :: u 14 :: u 15 :: u 16 :: u 17 :: u 18 :: u 19 :: u 20 :: u 21 :: u 22 :: u 23 :: u 24 :: u 25 :: u 26 :: u 27 :: u 28 :: u 29 :: u 30 :: u 31 :: u 32 :: u 33 :: u 34 :: u 35 :: u 36 :: u 37 :: u 38 :: u 39 :: u 40 :: u 41 :: u 42 :: u 43 :: u 44 :: u 45 :: u 46 :: u 47 :: u 48 :: u 49 :: u 50 :: u 51 :: u 52 :: u 53 :: u 54 :: u 55 :: u 56 :: u 57 :: u 58 :: u 59 :: u 60 :: u 61 :: u 62 :: u 63 :: u 64 :: u 65 :: u 66 :: u 67 :: u 68 :: u 69 :: u 70 :: u 71 :: u 72 :: u 73 :: u 74 :: u 75 :: u 76 :: u 77 :: u 78 :: u 79 :: u 80 :: u 81 :: u 82 :: u 83 :: u 84 :: u 85 :: u 86 :: u 87 :: u 88 :: u 89 :: u 90 :: u 91 :: u 92 :: u 93 :: u 94 :: u 95 :: u 96 :: u 97 :: u 98 :: u 99 :: u 100 :: u 101 :: u 102 :: u 103 :: u 104 :: u 105 :: u 106 :: u 107 :: u 108 :: u 109 :: u 110 :: u 111 :: u 112 :: u 113 :: u 114 :: u 115 :: u 116 :: u 117 :: u 118 :: u 119 :: u 120 :: u 121 :: u 122 :: u 123 :: u 124 :: u 125 :: u 126 :: u 127 :: u 128 :: u 129 :: u 130 :: u 131 :: u 132 :: u 133 :: u 134 :: u 135 :: u 136 :: []).toArray, defers := [] })
            (fun x a' _ W W' row h hg hr => h) ?assign ?body ?done ?stop
          case start => exact ⟨by simpa using hbx, by simpa using h0, hbs5, hb05⟩
          case assign =>
            rintro l pre x W K hi hK
            have HK := Lib.hid hK
            have HI := Lib.hid hi
            clear hK hi
            rw [fold1]
            simp only [List.setIfInBounds_toArray, List.set_cons_succ, List.set_cons_zero]
            gi_wp2
            refine HK.out _ _ ((KeepsOthers.refl _).from _) (Below.refl _ _) HI.out ⟨fun i => List.getD [_, _, _, undef, _, _, _, _, _, _, _, _, undef, _, _, _, _, _, _, _, _, _, _, _, _, _, _, _, _, _, _, _, _, _, _, _, _, _, _, _, _, _, _, _, _, _, _, _, _, _, _, _, _, _, _, _, _, _, _, _, _, _, _, _, _, _, _, _, _, _, _, _, _, _, _, _, _, _, _, _, _, _, _, _, _, _, _, _, _, _, _, _, _, _, _, _, _, _, _, _, _, _, _, _, _, _, _, _, _, _, _, _, _, _, _, _, _, _, _, _, _, _, _, _, _, _, _, _, _, _, _, _, _, _, _, _, _] i undef, rfl⟩
          case body =>
            rintro l pre x a' W hl ⟨rr, hrr⟩ ⟨hi1, hi2, hi3, hi4⟩ ⟨u, rfl⟩ hlt
            have hc := (blk_cell hi1 0).trans (show #[Value.int .i64 pre.length][0]? = some (.int .i64 pre.length) from rfl)
            have hf := blk_frozen hi1 0
            have hc2 := (blk_cell hi3 0).trans (show #[Value.int .u8 stop][0]? = some (.int .u8 stop) from rfl)
            have hltb := blk_lt hi1
            have HI1 := Lib.hid hi1
            have HI3 := Lib.hid hi3
            have HI4 := Lib.hid hi4
            have hn : ((pre.length : Nat) : Int) + 1 ≤ 1000 := by omega
            clear hi1 hi3 hi4 hrr
            by_cases heq : (pre.length : Int) = stop
            · have hb1 : ((pre.length : Int) == stop) = true := beq_iff_eq.2 heq
              gi_wp2
              refine ⟨(KeepsOthers.refl _).from _, rfl, by simp; omega, by rw [← heq]; exact HI1.out, HI3.out, HI4.out⟩
            · have hb1 : ((pre.length : Int) == stop) = false := beq_eq_false_iff_ne.2 heq
              gi_wp2
              refine ⟨(KeepsOthers.setCell _ _ _).from _, (Below.refl _ _).setCell (p := ⟨b, 0, none⟩) (by simp; omega) _, ?_, by simp; omega, blk_far HI3.out (p := ⟨b, 0, none⟩) (by simp; omega) _, HI4.out.setCell (p := ⟨b, 0, none⟩) (by simp; omega) _⟩
              have h := blk_put HI1.out 0 (.int .i64 ((pre.length : Int) + 1)) rfl
              rw [show ((pre ++ [x]).length : Int) = (pre.length : Int) + 1 by simp]
              exact h
          case done =>
            rintro D ys W hD rfl ⟨hi1, hi2, hi3, hi4⟩ hK
            have hmin : min (ys.length : Int) stop = ys.length := by omega
            have hc := (blk_cell hi1 0).trans (show #[Value.int .i64 ys.length][0]? = some (.int .i64 ys.length) from rfl)
            have hc2 := (blk_cell hi3 0).trans (show #[Value.int .u8 stop][0]? = some (.int .u8 stop) from rfl)
            have HI4 := Lib.hid hi4
            have HKK := Lib.hid hK
            clear hi1 hi3 hi4 hK hq
            go_wp2_with (go_at_call 7; (with_reducible refine (works_calls _).mono ?_); rintro e w9 ⟨rfl, hb9⟩; have HB9 := Lib.hid hb9; clear hb9)
            have hD9 : w9.heap[D]? = some (.deferred (some [])) := (HB9.out.block D (blk_lt HKK.out)).trans HKK.out
            refine ⟨by simp, .inl ⟨_, _, rfl, run_takeDeferred hD9, ?_⟩⟩
            refine ⟨_, results_tmp rfl _ _ _, rfl, ?_⟩
            have hB0 : Below w.heap.size w w9 := HI4.out.trans (HB9.out.mono HI4.out.size)
            exact hB0.grown (grownBy_putObj' w9 D (.deferred none)) hB0.size (fun k e => by cases e; have := hb05.size; omega)
          case stop =>
            rintro D c pre W hD hpre ⟨rfl, hi2, hi1, hi3, hi4⟩ hK
            have hple : pre.length ≤ toks.length := hpre.length_le
            have hmin : min (toks.length : Int) stop = stop := by omega
            have hc := (blk_cell hi1 0).trans (show #[Value.int .i64 stop][0]? = some (.int .i64 stop) from rfl)
            have hc2 := (blk_cell hi3 0).trans (show #[Value.int .u8 stop][0]? = some (.int .u8 stop) from rfl)
            have HI4 := Lib.hid hi4
            have HKK := Lib.hid hK
            clear hi1 hi3 hi4 hK hq hpre
            gi_wp2
            go_wp2_with (go_at_call 7; (with_reducible refine (works_calls _).mono ?_); rintro e w9 ⟨rfl, hb9⟩; have HB9 := Lib.hid hb9; clear hb9)
            have hD9 : w9.heap[D]? = some (.deferred (some [])) := (HB9.out.block D (blk_lt HKK.out)).trans HKK.out
            refine ⟨by simp, .inl ⟨_, _, rfl, run_takeDeferred hD9, ?_⟩⟩
            refine ⟨_, results_tmp rfl _ _ _, rfl, ?_⟩
            have hB0 : Below w.heap.size w w9 := HI4.out.trans (HB9.out.mono HI4.out.size)
            exact hB0.grown (grownBy_putObj' w9 D (.deferred none)) hB0.size (fun k e => by cases e; have := hb05.size; omega)
end Go.Proofs.Ytlpoglkddknedaa.H


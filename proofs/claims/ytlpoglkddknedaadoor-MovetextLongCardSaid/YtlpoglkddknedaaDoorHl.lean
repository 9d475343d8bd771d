/- MovetextLong walked: it answers true. Conditions: the argument is a byte's, the variables hold what their initialisers lay. -/
import Derived.Test.YtlpoglkddknedaaDoorHy
namespace Go.Proofs.YtlpoglkddknedaaDoor.L
open Go.RowKit Go.Proofs.YtlpoglkddknedaaDoor.T Go.Proofs.YtlpoglkddknedaaDoor.H Go.Proofs.YtlpoglkddknedaaDoorW.PrintWords Go.Proofs.YtlpoglkddknedaaDoorW.PrintLast Go.Proofs.YtlpoglkddknedaaDoorW.PrintMore
set_option linter.unusedVariables false
set_option linter.unusedSimpArgs false
def lgT4 : Bool × List (List Nat × List Nat) := (true, [([], []), ([0], [0]), ([], []), ([2], [2]), ([1, 3], [1, 3]), ([], []), ([5], [5]), ([4, 6, 4], [4, 6]), ([7, 7], [7]), ([8], [8]), ([9], [9]), ([9], [9]), ([9], [9]), ([], []), ([13, 10, 8, 0, 1, 2, 3, 4, 5, 6, 7, 8, 9, 10, 13], [10, 13]), ([11, 14, 0, 1, 2, 3, 4, 5, 6, 7, 8, 9, 10, 11, 13, 14], [11]), ([12, 15, 0, 1, 2, 3, 4, 5, 6, 7, 8, 9, 10, 11, 12, 13, 14, 15], [12])])
def lgB4 : List Nat := [0, 1, 0, 4, 15, 0, 32, 127, 255, 511, 1023, 1023, 1023, 0, 10239, 28671, 65535]
theorem lgtab4 : rtab .any (opsOf Tryd.f6 4) = lgT4 := by kernel_rfl
theorem lgbits4 : waitsOk lgT4.2 lgB4 = true := by kernel_rfl
def lgT6 : Bool × List (List Nat × List Nat) := (true, [([], []), ([], []), ([0, 1], [0, 1]), ([2], [2]), ([], []), ([4], [4]), ([5, 3], [5]), ([], []), ([7], [7]), ([3, 6, 8], [3, 6, 8]), ([9, 6], [9]), ([10, 10, 0, 1, 2, 3, 4, 5, 6, 7, 8, 9, 10], [10])])
def lgB6 : List Nat := [0, 0, 3, 7, 0, 16, 63, 0, 128, 511, 1023, 2047]
theorem lgtab6 : rtab .any (opsOf Tryd.f6 6) = lgT6 := by kernel_rfl
theorem lgbits6 : waitsOk lgT6.2 lgB6 = true := by kernel_rfl

theorem own_ne {w w1 : World} {v : Value} {xs : List S46} {gb : Nat} (hr : Kd.R k46 46 w1 w.heap.size (fun _ => True) v xs) (h : gb < w.heap.size) : some gb ≠ v.ownBlock := fun e => by have := Kd.R_base hr gb e.symm; omega
theorem own_new {w : World} {b : Nat} {v : Value} {xs : List S46} (hr : Kd.R k46 46 w b (fun _ => True) v xs) : some w.heap.size ≠ v.ownBlock := fun e => by have := ((Kd.R_bound hr).1 _ e.symm).2.2.1; omega
theorem app_reads {w : World} {b n : Nat} {A : Option Addr} {c : Nat} {xs : List S46} (hr : Kd.R k46 46 w b (fun _ => True) (.slice A n c) xs) (h : xs.length = n) : Kd.C k46 w A n xs ∧ n ≤ c := by
  obtain ⟨h1, h2, h3⟩ := Kd.R_reads' hr
  rw [h] at h3
  exact ⟨h3, h2⟩
theorem rep_reads {w : World} {b n : Nat} {A : Option Addr} {c : Nat} {xs : List S46} (hr : Kd.R k46 46 w b (fun _ => True) (.slice A n c) xs) (h : xs.length = n) : Kd.C k46 w A n xs ∧ n ≤ c := app_reads hr h
theorem keepc {w w1 : World} {p : Addr} {v : Value} (h : w.cell? p = some v) (hb : Below w.heap.size w w1) : w1.cell? p = some v := (hb.cell (World.block_lt_of_cell? w _ h)).trans h
theorem boxes46 (W : World) (w4 : World) (h : (W.alloc (.cells #[.int .i64 2, .string ⟨#[101, 52]⟩, .int .i64 0] 46)).alloc (.cells #[.int .i64 4, .string ⟨#[42]⟩, .int .i64 0] 46) = w4) :
    Below W.heap.size W w4 ∧ w4.heap[W.heap.size]? = some (.cells #[.int .i64 2, .string ⟨#[101, 52]⟩, .int .i64 0] 46 (0, 0)) ∧ w4.heap[W.heap.size + 1]? = some (.cells #[.int .i64 4, .string ⟨#[42]⟩, .int .i64 0] 46 (0, 0)) := by
  subst h
  refine ⟨((Below.refl _ _).alloc (Nat.le_refl _) _).alloc (by rw [World.size_alloc]; omega) _, blk_alloc (blk_new W _) _, ?_⟩
  have h := blk_new (W.alloc (.cells #[.int .i64 2, .string ⟨#[101, 52]⟩, .int .i64 0] 46)) (.cells #[.int .i64 4, .string ⟨#[42]⟩, .int .i64 0] 46)
  rw [World.size_alloc] at h
  exact h
set_option maxHeartbeats 8000000 in
set_option maxRecDepth 100000 in
theorem long_any (W : World) (a : Int) (kk : Int) (n1 n2 nb m0 m1 mb : Nat) (r2 r3 r4 u3 u4 : Int) (h0 : 0 ≤ a) (h255 : a ≤ 255) (hk : a % 4 = kk + 2) (hn1 : 1 ≤ n1) (hn3 : n1 ≤ 1000000) (hx1 : wrap64 (300 + kk) = (n1 : Int)) (hl2 : (rep n1 [tE4] ++ [tSt]).length = n2)
    (hpa : (parseF (rep n1 [tE4] ++ [tSt]) 0).map (fun r => (r.1.length, r.2)) = some (nb, r2, r3, r4)) (hg : Laid W)
    (hm0 : 1 ≤ m0) (hm3 : m1 ≤ 1000000) (hm4 : m0 ≤ 1000000) (hx2 : 24 + kk = (m0 : Int)) (hm1 : m0 * 4 = m1) (hta : (tagsF (rep m0 tags4) 0).map (fun r => (r.1.length, r.2)) = some (mb, u3, u4))
    (hfin : (0 < kk ∧ nb = 0 ∧ r3 = 0 ∧ r4 = 18 ∧ mb = 0 ∧ u3 = 0 ∧ u4 = 18) ∨ (¬ 0 < kk ∧ (nb : Int) = 300 + kk ∧ r3 = 300 + kk + 1 ∧ r4 = 0 ∧ (mb : Int) = 24 + kk ∧ u3 = 4 * (24 + kk) ∧ u4 = 0)) :
    Calls Tryd.prog 6 #[.int .u8 a] W fun e w' => e = .returned (.bool true) ∧ Below W.heap.size W w' := by
  have HX1 := Aside0.mk hx1
  have HL2 := Aside0.mk hl2
  have HPA := Aside0.mk hpa
  have HG := Aside0.mk hg
  have HX2 := Aside0.mk hx2
  have HM1 := Aside0.mk hm1
  have HTA := Aside0.mk hta
  have HFIN := Aside0.mk hfin
  have hk1 : -2 ≤ kk := by omega
  have hk2 : kk ≤ 1 := by omega
  clear hx1 hl2 hpa hg hx2 hm1 hta hfin
  have hkk : a % 4 - 2 = kk := by omega
  clear hk
  go_enter Tryd.func6, Tryd.ntmps6
  go_upto_region 4 with (fail)
  obtain ⟨w4, hw4⟩ : ∃ w, (W.alloc (.cells #[.int .i64 2, .string ⟨#[101, 52]⟩, .int .i64 0] 46)).alloc (.cells #[.int .i64 4, .string ⟨#[42]⟩, .int .i64 0] 46) = w := ⟨_, rfl⟩
  obtain ⟨hb4, hE, hS⟩ := boxes46 W w4 hw4
  obtain ⟨g, hgg⟩ : ∃ g, W.heap.size = g := ⟨_, rfl⟩
  rw [hgg] at hE hS
  rw [hw4, hgg]
  have HBD := Aside0.mk (below_drew1 hb4)
  have HGD := Aside0.mk (HG.out.below HBD.out)
  have CE0 := Aside0.mk (show w4.drew.cell? ⟨g, 0, none⟩ = some (.int .i64 2) from (blk_cell (blk_drew hE) 0).trans rfl)
  have CE1 := Aside0.mk (show w4.drew.cell? ⟨g, 1, none⟩ = some (.string (⟨#[101, 52]⟩ : ByteArray)) from (blk_cell (blk_drew hE) 1).trans rfl)
  have CE2 := Aside0.mk (show w4.drew.cell? ⟨g, 2, none⟩ = some (.int .i64 0) from (blk_cell (blk_drew hE) 2).trans rfl)
  have CS0 := Aside0.mk (show w4.drew.cell? ⟨g + 1, 0, none⟩ = some (.int .i64 4) from (blk_cell (blk_drew hS) 0).trans rfl)
  have CS1 := Aside0.mk (show w4.drew.cell? ⟨g + 1, 1, none⟩ = some (.string (⟨#[42]⟩ : ByteArray)) from (blk_cell (blk_drew hS) 1).trans rfl)
  have CS2 := Aside0.mk (show w4.drew.cell? ⟨g + 1, 2, none⟩ = some (.int .i64 0) from (blk_cell (blk_drew hS) 2).trans rfl)
  clear hw4 hb4 hE hS hgg hkk
  refine start_ (n := 17) (S := fun w' => True) (ds := []) #[false, false, false, false, false, false, false, false, false, false, false, false, false, false, false, false, false] (by kernel_rfl) rfl rfl trivial (fun hHeld => ?_); refine with_tabW lgtab4 lgbits4 (fun HT_ HW_ => ?_)
  generalize w4.drew = wd at HBD CE0 CE1 CE2 CS0 CS1 CS2 HGD hHeld ⊢
  refine pure_ (i := 2) (N := some 28) (v := ?_) (a' := ?_) #[false, false, true, false, false, false, false, false, false, false, false, false, false, false, false, false, false] rfl rfl (any_of HT_.out (by kernel_rfl)) (fun _ _ _ h => h) (Or.inl ⟨by rfl, ?_⟩) ?_ ?_
  rotate_left
  · intro w'
    go_simp
    with_reducible rfl
  rotate_left
  · simp only [Act.put, List.setIfInBounds_toArray, List.set_cons_zero, List.set_cons_succ, i64_w, i32_w]
    rfl
  refine inv_at [0, 1, 3, 4, 5, 6, 7, 8, 9, 10, 11, 12, 13, 14, 15, 16] (fun a0_ b a w' => ∃ (q1 : Nat) (A4 : Option Addr) (c4 : Nat) (q6 : Nat) (A7 : Option Addr) (c7 : Nat) (A8 : Option Addr) (c8 : Nat) (gb : Nat) (m1_ : Value) (m4_ : Value) (m6_ : Value) (m7_ : Value) (m8_ : Value) (m9_ : Value) (m10_ : Value) (m13_ : Value), a = putSel a0_ b [(0, 26, .agg #[.int .i64 2, .string (⟨#[101, 52]⟩ : ByteArray), .int .i64 0]), (1, 27, m1_), (3, 29, .int .i64 (wrap64 (300 + kk))), (4, 30, m4_), (5, 31, .agg #[.int .i64 4, .string (⟨#[42]⟩ : ByteArray), .int .i64 0]), (6, 32, m6_), (7, 33, m7_), (8, 34, m8_), (9, 25, m9_), (10, 35, m10_), (11, 36, .int .i64 r3), (12, 37, .int .i64 r4), (13, 6, m13_), (15, 7, .int .i64 r3), (16, 8, .int .i64 r4)] ∧ (Below wd.heap.size wd w') ∧ (b 1 = true → b 4 = false → Kd.C k46 w' (some ⟨q1, 0, none⟩) 1 [tE4]) ∧ (b 4 = true → b 7 = false → Kd.R k46 46 w' wd.heap.size (fun _ => True) (.slice A4 n1 c4) (rep n1 [tE4])) ∧ (b 6 = true → b 7 = false → Kd.C k46 w' (some ⟨q6, 0, none⟩) 1 [tSt]) ∧ (b 7 = true → b 8 = false → Kd.C k46 w' A7 n2 (rep n1 [tE4] ++ [tSt]) ∧ n2 ≤ c7) ∧ (b 13 = true → b 14 = false → w'.heap[gb]? = some (.cells #[.slice none 0 0, .int .i64 0] 27 (0, 0)) ∧ wd.heap.size ≤ gb) ∧ (b 4 = true → b 13 = true → b 7 = false → some gb ≠ (Value.slice A4 n1 c4).ownBlock) ∧ (b 14 = true → w'.heap[gb]? = some (.cells #[.slice A8 nb c8, .int .i64 r2] 27 (0, 0)) ∧ wd.heap.size ≤ gb) ∧ (b 1 = true → (m1_ : Value) = .slice (some ⟨q1, 0, none⟩) 1 1) ∧ (b 4 = true → (m4_ : Value) = .slice A4 n1 c4) ∧ (b 6 = true → (m6_ : Value) = .slice (some ⟨q6, 0, none⟩) 1 1) ∧ (b 7 = true → (m7_ : Value) = .slice A7 n2 c7) ∧ (b 8 = true → (m8_ : Value) = .tuple #[.agg #[.slice A8 nb c8, .int .i64 r2], .int .i64 r3, .int .i64 r4]) ∧ (b 9 = true → (m9_ : Value) = .tuple #[.agg #[.slice A8 nb c8, .int .i64 r2], .int .i64 r3, .int .i64 r4]) ∧ (b 10 = true → (m10_ : Value) = .agg #[.slice A8 nb c8, .int .i64 r2]) ∧ (b 13 = true → (m13_ : Value) = .pointer (some ⟨gb, 0, none⟩))) HT_.out HW_.out (by kernel_rfl) (by kernel_rfl) ?_ ?_ ?_
  · exact ⟨0, none, 0, 0, none, 0, none, 0, 0, .bool false, .bool false, .bool false, .bool false, .bool false, .bool false, .bool false, .bool false, by simp only [putSel, Bool.false_eq_true, if_false], Below.refl _ _, fun h_ => absurd h_ (by decide), fun h_ => absurd h_ (by decide), fun h_ => absurd h_ (by decide), fun h_ => absurd h_ (by decide), fun h_ => absurd h_ (by decide), fun h_ => absurd h_ (by decide), fun h_ => absurd h_ (by decide), fun h_ => absurd h_ (by decide), fun h_ => absurd h_ (by decide), fun h_ => absurd h_ (by decide), fun h_ => absurd h_ (by decide), fun h_ => absurd h_ (by decide), fun h_ => absurd h_ (by decide), fun h_ => absurd h_ (by decide), fun h_ => absurd h_ (by decide)⟩
  · skip
    refine steps_cons ?_ ?_
    · rintro b a w' ⟨q1, A4, c4, q6, A7, c7, A8, c8, gb, m1_, m4_, m6_, m7_, m8_, m9_, m10_, m13_, ha, Q_B0, Q_F1, Q_F4, Q_F6, Q_F7, Q_F13, Q_FX, Q_F14, Q_X1_, Q_X4_, Q_X6_, Q_X7_, Q_X8_, Q_X9_, Q_X10_, Q_X13_⟩ hb_ hon hoff
      refine ⟨_, rfl, fun K hK => ?_⟩
      have e4 : a.tmps[4]? = some (.pointer (some ⟨g, 0, none⟩)) := by rw [ha]; exact (putSel_off rfl).trans rfl
      replace ha := Aside0.mk ha
      have B0 := Aside0.mk Q_B0
      have x0_0 : w'.cell? ⟨g, 0, none⟩ = some (.int .i64 2) := (B0.out.cell (World.block_lt_of_cell? _ _ CE0.out)).trans CE0.out
      have x0_1 : w'.cell? ⟨g, 1, none⟩ = some (.string (⟨#[101, 52]⟩ : ByteArray)) := (B0.out.cell (World.block_lt_of_cell? _ _ CE1.out)).trans CE1.out
      have x0_2 : w'.cell? ⟨g, 2, none⟩ = some (.int .i64 0) := (B0.out.cell (World.block_lt_of_cell? _ _ CE2.out)).trans CE2.out
      refine value_ (w1 := w') (v := .agg #[.int .i64 2, .string (⟨#[101, 52]⟩ : ByteArray), .int .i64 0]) (by rfl) rfl ?_ ?_
      · go_simp
        (try simp only [i64_w])
        try rfl
      refine hK.out _ _ ⟨q1, A4, c4, q6, A7, c7, A8, c8, gb, m1_, m4_, m6_, m7_, m8_, m9_, m10_, m13_, (by rw [ha.out]; exact putSel_upk 0 hb_ rfl rfl rfl), Q_B0, fun h0_ _ => absurd ((hoff 1 (by kernel_rfl)).symm.trans h0_) (by decide), fun h0_ _ => absurd ((hoff 4 (by kernel_rfl)).symm.trans h0_) (by decide), Q_F6, fun h0_ _ => absurd ((hoff 7 (by kernel_rfl)).symm.trans h0_) (by decide), Q_F13, fun h0_ _ _ => absurd ((hoff 4 (by kernel_rfl)).symm.trans h0_) (by decide), fun h0_ => absurd ((hoff 14 (by kernel_rfl)).symm.trans h0_) (by decide), fun h0_ => absurd ((hoff 1 (by kernel_rfl)).symm.trans h0_) (by decide), fun h0_ => absurd ((hoff 4 (by kernel_rfl)).symm.trans h0_) (by decide), Q_X6_, fun h0_ => absurd ((hoff 7 (by kernel_rfl)).symm.trans h0_) (by decide), fun h0_ => absurd ((hoff 8 (by kernel_rfl)).symm.trans h0_) (by decide), fun h0_ => absurd ((hoff 9 (by kernel_rfl)).symm.trans h0_) (by decide), fun h0_ => absurd ((hoff 10 (by kernel_rfl)).symm.trans h0_) (by decide), Q_X13_⟩
    refine steps_cons ?_ ?_
    · rintro b a w' ⟨q1, A4, c4, q6, A7, c7, A8, c8, gb, m1_, m4_, m6_, m7_, m8_, m9_, m10_, m13_, ha, Q_B0, Q_F1, Q_F4, Q_F6, Q_F7, Q_F13, Q_FX, Q_F14, Q_X1_, Q_X4_, Q_X6_, Q_X7_, Q_X8_, Q_X9_, Q_X10_, Q_X13_⟩ hb_ hon hoff
      refine ⟨_, rfl, fun K hK => ?_⟩
      have e26 : a.tmps[26]? = some (.agg #[.int .i64 2, .string (⟨#[101, 52]⟩ : ByteArray), .int .i64 0]) := by rw [ha]; exact putSel_on (e := (0, 26, .agg #[.int .i64 2, .string (⟨#[101, 52]⟩ : ByteArray), .int .i64 0])) 0 rfl rfl (hon 0 (by kernel_rfl)) rfl
      replace ha := Aside0.mk ha
      have B0 := Aside0.mk Q_B0
      have hb : Below w'.heap.size w' (w'.alloc (.cells #[.int .i64 2, .string (⟨#[101, 52]⟩ : ByteArray), .int .i64 0] 46)) := (Below.refl _ _).alloc (Nat.le_refl _) _
      refine value_ (w1 := w'.alloc (.cells #[.int .i64 2, .string (⟨#[101, 52]⟩ : ByteArray), .int .i64 0] 46)) (v := .slice (some ⟨w'.heap.size, 0, none⟩) 1 1) (by rfl) rfl ?_ ?_
      · go_simp
        try rfl
      refine hK.out _ _ ⟨w'.heap.size, A4, c4, q6, A7, c7, A8, c8, gb, (.slice (some ⟨w'.heap.size, 0, none⟩) 1 1), m4_, m6_, m7_, m8_, m9_, m10_, m13_, (by rw [ha.out]; exact putSel_upk 1 hb_ rfl rfl rfl), (B0.out.trans (hb.mono B0.out.size)), fun _ _ => lit46 w' [tE4] 1 rfl (by decide) _ rfl, fun h0_ _ => absurd ((hoff 4 (by kernel_rfl)).symm.trans h0_) (by decide), fun h0_ h1_ => Kd.C_below (Q_F6 h0_ h1_) hb, fun h0_ _ => absurd ((hoff 7 (by kernel_rfl)).symm.trans h0_) (by decide), fun h0_ h1_ => ⟨blk_below (Q_F13 h0_ h1_).1 hb, (Q_F13 h0_ h1_).2⟩, fun h0_ _ _ => absurd ((hoff 4 (by kernel_rfl)).symm.trans h0_) (by decide), fun h0_ => absurd ((hoff 14 (by kernel_rfl)).symm.trans h0_) (by decide), fun _ => rfl, fun h0_ => absurd ((hoff 4 (by kernel_rfl)).symm.trans h0_) (by decide), Q_X6_, fun h0_ => absurd ((hoff 7 (by kernel_rfl)).symm.trans h0_) (by decide), fun h0_ => absurd ((hoff 8 (by kernel_rfl)).symm.trans h0_) (by decide), fun h0_ => absurd ((hoff 9 (by kernel_rfl)).symm.trans h0_) (by decide), fun h0_ => absurd ((hoff 10 (by kernel_rfl)).symm.trans h0_) (by decide), Q_X13_⟩
    refine steps_cons ?_ ?_
    · rintro b a w' ⟨q1, A4, c4, q6, A7, c7, A8, c8, gb, m1_, m4_, m6_, m7_, m8_, m9_, m10_, m13_, ha, Q_B0, Q_F1, Q_F4, Q_F6, Q_F7, Q_F13, Q_FX, Q_F14, Q_X1_, Q_X4_, Q_X6_, Q_X7_, Q_X8_, Q_X9_, Q_X10_, Q_X13_⟩ hb_ hon hoff
      refine ⟨_, rfl, fun K hK => ?_⟩
      have e28 : a.tmps[28]? = some (.int .i64 kk) := by rw [ha]; exact (putSel_off rfl).trans rfl
      replace ha := Aside0.mk ha
      have B0 := Aside0.mk Q_B0
      refine value_ (w1 := w') (v := .int .i64 (wrap64 (300 + kk))) (by rfl) rfl ?_ ?_
      · go_simp
        (try simp only [i64_w])
        try rfl
      refine hK.out _ _ ⟨q1, A4, c4, q6, A7, c7, A8, c8, gb, m1_, m4_, m6_, m7_, m8_, m9_, m10_, m13_, (by rw [ha.out]; exact putSel_upk 2 hb_ rfl rfl rfl), Q_B0, Q_F1, fun h0_ _ => absurd ((hoff 4 (by kernel_rfl)).symm.trans h0_) (by decide), Q_F6, fun h0_ _ => absurd ((hoff 7 (by kernel_rfl)).symm.trans h0_) (by decide), Q_F13, fun h0_ _ _ => absurd ((hoff 4 (by kernel_rfl)).symm.trans h0_) (by decide), fun h0_ => absurd ((hoff 14 (by kernel_rfl)).symm.trans h0_) (by decide), Q_X1_, fun h0_ => absurd ((hoff 4 (by kernel_rfl)).symm.trans h0_) (by decide), Q_X6_, fun h0_ => absurd ((hoff 7 (by kernel_rfl)).symm.trans h0_) (by decide), fun h0_ => absurd ((hoff 8 (by kernel_rfl)).symm.trans h0_) (by decide), fun h0_ => absurd ((hoff 9 (by kernel_rfl)).symm.trans h0_) (by decide), fun h0_ => absurd ((hoff 10 (by kernel_rfl)).symm.trans h0_) (by decide), Q_X13_⟩
    refine steps_cons ?_ ?_
    · rintro b a w' ⟨q1, A4, c4, q6, A7, c7, A8, c8, gb, m1_, m4_, m6_, m7_, m8_, m9_, m10_, m13_, ha, Q_B0, Q_F1, Q_F4, Q_F6, Q_F7, Q_F13, Q_FX, Q_F14, Q_X1_, Q_X4_, Q_X6_, Q_X7_, Q_X8_, Q_X9_, Q_X10_, Q_X13_⟩ hb_ hon hoff
      refine ⟨_, rfl, fun K hK => ?_⟩
      have e27 : a.tmps[27]? = some (m1_) := by rw [ha]; exact putSel_on (e := (1, 27, m1_)) 1 rfl rfl (hon 1 (by kernel_rfl)) rfl
      rw [Q_X1_ (hon 1 (by kernel_rfl))] at e27
      have e29 : a.tmps[29]? = some (.int .i64 (wrap64 (300 + kk))) := by rw [ha]; exact putSel_on (e := (3, 29, .int .i64 (wrap64 (300 + kk)))) 2 rfl rfl (hon 3 (by kernel_rfl)) rfl
      replace ha := Aside0.mk ha
      have B0 := Aside0.mk Q_B0
      have F1 := Aside0.mk (Q_F1 (hon 1 (by kernel_rfl)) hb_)
      refine goes_ Tryd.func26 (by kernel_rfl) rfl #[.slice (some ⟨q1, 0, none⟩) 1 1, .int .i64 (wrap64 (300 + kk))] (by rfl) rfl rfl (by first | (simp only [List.map_toArray, List.map_cons, List.map_nil, Act.eval, Array.getD_eq_getD_getElem?, Option.getD_some, e27, e29]; done) | (simp only [List.map_toArray, List.map_cons, List.map_nil, Act.eval, Array.getD_eq_getD_getElem?, Option.getD_some, e27, e29]; rfl)) ?_
      with_reducible refine (rep_call [tE4] 1 rfl n1 n1 (by omega) (wrap64 (300 + kk)) HX1.out hn1 (by decide) hn3 hn3 (by decide) w' (some ⟨q1, 0, none⟩) 1 F1.out (Nat.le_refl _)).mono ?_
      rintro e w1 ⟨A4', c4', rfl, hr, hb⟩
      refine ⟨_, rfl, ?_⟩
      refine hK.out _ _ ⟨q1, A4', c4', q6, A7, c7, A8, c8, gb, m1_, (.slice A4' n1 c4'), m6_, m7_, m8_, m9_, m10_, m13_, (by rw [ha.out]; exact putSel_upk 3 hb_ rfl rfl rfl), (B0.out.trans (hb.mono B0.out.size)), fun _ h1_ => absurd ((up_self b 4).symm.trans h1_) (by decide), fun _ _ => Kd.R_lower hr B0.out.size, fun h0_ h1_ => Kd.C_below (Q_F6 h0_ h1_) hb, fun h0_ _ => absurd ((hoff 7 (by kernel_rfl)).symm.trans h0_) (by decide), fun h0_ h1_ => ⟨blk_below (Q_F13 h0_ h1_).1 hb, (Q_F13 h0_ h1_).2⟩, fun _ h13_ _ => own_ne hr (blk_lt (Q_F13 h13_ (hoff 14 (by kernel_rfl))).1), fun h0_ => absurd ((hoff 14 (by kernel_rfl)).symm.trans h0_) (by decide), Q_X1_, fun _ => rfl, Q_X6_, fun h0_ => absurd ((hoff 7 (by kernel_rfl)).symm.trans h0_) (by decide), fun h0_ => absurd ((hoff 8 (by kernel_rfl)).symm.trans h0_) (by decide), fun h0_ => absurd ((hoff 9 (by kernel_rfl)).symm.trans h0_) (by decide), fun h0_ => absurd ((hoff 10 (by kernel_rfl)).symm.trans h0_) (by decide), Q_X13_⟩
    refine steps_cons ?_ ?_
    · rintro b a w' ⟨q1, A4, c4, q6, A7, c7, A8, c8, gb, m1_, m4_, m6_, m7_, m8_, m9_, m10_, m13_, ha, Q_B0, Q_F1, Q_F4, Q_F6, Q_F7, Q_F13, Q_FX, Q_F14, Q_X1_, Q_X4_, Q_X6_, Q_X7_, Q_X8_, Q_X9_, Q_X10_, Q_X13_⟩ hb_ hon hoff
      refine ⟨_, rfl, fun K hK => ?_⟩
      have e5 : a.tmps[5]? = some (.pointer (some ⟨g + 1, 0, none⟩)) := by rw [ha]; exact (putSel_off rfl).trans rfl
      replace ha := Aside0.mk ha
      have B0 := Aside0.mk Q_B0
      have x5_0 : w'.cell? ⟨g + 1, 0, none⟩ = some (.int .i64 4) := (B0.out.cell (World.block_lt_of_cell? _ _ CS0.out)).trans CS0.out
      have x5_1 : w'.cell? ⟨g + 1, 1, none⟩ = some (.string (⟨#[42]⟩ : ByteArray)) := (B0.out.cell (World.block_lt_of_cell? _ _ CS1.out)).trans CS1.out
      have x5_2 : w'.cell? ⟨g + 1, 2, none⟩ = some (.int .i64 0) := (B0.out.cell (World.block_lt_of_cell? _ _ CS2.out)).trans CS2.out
      refine value_ (w1 := w') (v := .agg #[.int .i64 4, .string (⟨#[42]⟩ : ByteArray), .int .i64 0]) (by rfl) rfl ?_ ?_
      · go_simp
        (try simp only [i64_w])
        try rfl
      refine hK.out _ _ ⟨q1, A4, c4, q6, A7, c7, A8, c8, gb, m1_, m4_, m6_, m7_, m8_, m9_, m10_, m13_, (by rw [ha.out]; exact putSel_upk 4 hb_ rfl rfl rfl), Q_B0, Q_F1, Q_F4, fun h0_ _ => absurd ((hoff 6 (by kernel_rfl)).symm.trans h0_) (by decide), fun h0_ _ => absurd ((hoff 7 (by kernel_rfl)).symm.trans h0_) (by decide), Q_F13, Q_FX, fun h0_ => absurd ((hoff 14 (by kernel_rfl)).symm.trans h0_) (by decide), Q_X1_, Q_X4_, fun h0_ => absurd ((hoff 6 (by kernel_rfl)).symm.trans h0_) (by decide), fun h0_ => absurd ((hoff 7 (by kernel_rfl)).symm.trans h0_) (by decide), fun h0_ => absurd ((hoff 8 (by kernel_rfl)).symm.trans h0_) (by decide), fun h0_ => absurd ((hoff 9 (by kernel_rfl)).symm.trans h0_) (by decide), fun h0_ => absurd ((hoff 10 (by kernel_rfl)).symm.trans h0_) (by decide), Q_X13_⟩
    refine steps_cons ?_ ?_
    · rintro b a w' ⟨q1, A4, c4, q6, A7, c7, A8, c8, gb, m1_, m4_, m6_, m7_, m8_, m9_, m10_, m13_, ha, Q_B0, Q_F1, Q_F4, Q_F6, Q_F7, Q_F13, Q_FX, Q_F14, Q_X1_, Q_X4_, Q_X6_, Q_X7_, Q_X8_, Q_X9_, Q_X10_, Q_X13_⟩ hb_ hon hoff
      refine ⟨_, rfl, fun K hK => ?_⟩
      have e31 : a.tmps[31]? = some (.agg #[.int .i64 4, .string (⟨#[42]⟩ : ByteArray), .int .i64 0]) := by rw [ha]; exact putSel_on (e := (5, 31, .agg #[.int .i64 4, .string (⟨#[42]⟩ : ByteArray), .int .i64 0])) 4 rfl rfl (hon 5 (by kernel_rfl)) rfl
      replace ha := Aside0.mk ha
      have B0 := Aside0.mk Q_B0
      have hb : Below w'.heap.size w' (w'.alloc (.cells #[.int .i64 4, .string (⟨#[42]⟩ : ByteArray), .int .i64 0] 46)) := (Below.refl _ _).alloc (Nat.le_refl _) _
      refine value_ (w1 := w'.alloc (.cells #[.int .i64 4, .string (⟨#[42]⟩ : ByteArray), .int .i64 0] 46)) (v := .slice (some ⟨w'.heap.size, 0, none⟩) 1 1) (by rfl) rfl ?_ ?_
      · go_simp
        try rfl
      refine hK.out _ _ ⟨q1, A4, c4, w'.heap.size, A7, c7, A8, c8, gb, m1_, m4_, (.slice (some ⟨w'.heap.size, 0, none⟩) 1 1), m7_, m8_, m9_, m10_, m13_, (by rw [ha.out]; exact putSel_upk 5 hb_ rfl rfl rfl), (B0.out.trans (hb.mono B0.out.size)), fun h0_ h1_ => Kd.C_below (Q_F1 h0_ h1_) hb, fun h0_ h1_ => Kd.R_below (Q_F4 h0_ h1_) hb, fun _ _ => lit46 w' [tSt] 1 rfl (by decide) _ rfl, fun h0_ _ => absurd ((hoff 7 (by kernel_rfl)).symm.trans h0_) (by decide), fun h0_ h1_ => ⟨blk_below (Q_F13 h0_ h1_).1 hb, (Q_F13 h0_ h1_).2⟩, Q_FX, fun h0_ => absurd ((hoff 14 (by kernel_rfl)).symm.trans h0_) (by decide), Q_X1_, Q_X4_, fun _ => rfl, fun h0_ => absurd ((hoff 7 (by kernel_rfl)).symm.trans h0_) (by decide), fun h0_ => absurd ((hoff 8 (by kernel_rfl)).symm.trans h0_) (by decide), fun h0_ => absurd ((hoff 9 (by kernel_rfl)).symm.trans h0_) (by decide), fun h0_ => absurd ((hoff 10 (by kernel_rfl)).symm.trans h0_) (by decide), Q_X13_⟩
    refine steps_cons ?_ ?_
    · rintro b a w' ⟨q1, A4, c4, q6, A7, c7, A8, c8, gb, m1_, m4_, m6_, m7_, m8_, m9_, m10_, m13_, ha, Q_B0, Q_F1, Q_F4, Q_F6, Q_F7, Q_F13, Q_FX, Q_F14, Q_X1_, Q_X4_, Q_X6_, Q_X7_, Q_X8_, Q_X9_, Q_X10_, Q_X13_⟩ hb_ hon hoff
      refine ⟨_, rfl, fun K hK => ?_⟩
      have e30 : a.tmps[30]? = some (m4_) := by rw [ha]; exact putSel_on (e := (4, 30, m4_)) 3 rfl rfl (hon 4 (by kernel_rfl)) rfl
      rw [Q_X4_ (hon 4 (by kernel_rfl))] at e30
      have e32 : a.tmps[32]? = some (m6_) := by rw [ha]; exact putSel_on (e := (6, 32, m6_)) 5 rfl rfl (hon 6 (by kernel_rfl)) rfl
      rw [Q_X6_ (hon 6 (by kernel_rfl))] at e32
      replace ha := Aside0.mk ha
      have B0 := Aside0.mk Q_B0
      have F4 := Aside0.mk (Q_F4 (hon 4 (by kernel_rfl)) hb_)
      have F6 := Aside0.mk (Q_F6 (hon 6 (by kernel_rfl)) hb_)
      refine Kd.R_append_rows_step k46 (w0 := wd) wd.heap.size (by rfl) (.tmp 30) (.tmp 32) 23 46 (.agg #[(.int .i64 0), (.string ⟨#[]⟩), (.int .i64 0)]) 32 rfl Tryd.underlying23 li46 rfl (by decide) (by omega) (.slice A4 n1 c4) (rep n1 [tE4]) [tSt] (some ⟨q6, 0, none⟩) 1 1 (fun _ => True) (fun _ => False) (by simp only [Act.eval, Array.getD_eq_getD_getElem?, Option.getD_some, e30]) (by simp only [Act.eval, Array.getD_eq_getD_getElem?, Option.getD_some, e32]) ?aO ?aR (fun _ _ h => h) (fun _ h => h.elim) ?aF ?aB ?aS ?aL ?_
      (case aO => exact F4.out)
      (case aR => exact F6.out)
      (case aF => exact fun _ _ => trivial)
      (case aB => exact B0.out)
      (case aS => exact B0.out.size)
      (case aL => rw [rep_len]; show (n1 * 1 + 1) * 32 ≤ _; omega)
      intro v7 w1 ho hb7 hg hat
      obtain ⟨A7', c7', e7⟩ := Kd.R_slice ho
      rw [show (rep n1 [tE4] ++ [tSt]).length = n2 from HL2.out] at e7
      subst e7
      refine hK.out _ _ ⟨q1, A4, c4, q6, A7', c7', A8, c8, gb, m1_, m4_, m6_, (.slice A7' n2 c7'), m8_, m9_, m10_, m13_, (by rw [ha.out]; exact putSel_upk 6 hb_ rfl rfl rfl), hb7, fun _ h1_ => absurd ((hon 4 (by kernel_rfl)).symm.trans h1_) (by decide), fun _ h1_ => absurd ((up_self b 7).symm.trans h1_) (by decide), fun _ h1_ => absurd ((up_self b 7).symm.trans h1_) (by decide), fun _ _ => app_reads ho HL2.out, fun h13_ h14_ => ⟨blk_grown (Q_F13 h13_ h14_).1 hg (Q_FX (hon 4 (by kernel_rfl)) h13_ hb_), (Q_F13 h13_ h14_).2⟩, fun _ _ h2_ => absurd ((up_self b 7).symm.trans h2_) (by decide), fun h0_ => absurd ((hoff 14 (by kernel_rfl)).symm.trans h0_) (by decide), Q_X1_, Q_X4_, Q_X6_, fun _ => rfl, fun h0_ => absurd ((hoff 8 (by kernel_rfl)).symm.trans h0_) (by decide), fun h0_ => absurd ((hoff 9 (by kernel_rfl)).symm.trans h0_) (by decide), fun h0_ => absurd ((hoff 10 (by kernel_rfl)).symm.trans h0_) (by decide), Q_X13_⟩
    refine steps_cons ?_ ?_
    · rintro b a w' ⟨q1, A4, c4, q6, A7, c7, A8, c8, gb, m1_, m4_, m6_, m7_, m8_, m9_, m10_, m13_, ha, Q_B0, Q_F1, Q_F4, Q_F6, Q_F7, Q_F13, Q_FX, Q_F14, Q_X1_, Q_X4_, Q_X6_, Q_X7_, Q_X8_, Q_X9_, Q_X10_, Q_X13_⟩ hb_ hon hoff
      refine ⟨_, rfl, fun K hK => ?_⟩
      have e33 : a.tmps[33]? = some (m7_) := by rw [ha]; exact putSel_on (e := (7, 33, m7_)) 6 rfl rfl (hon 7 (by kernel_rfl)) rfl
      rw [Q_X7_ (hon 7 (by kernel_rfl))] at e33
      replace ha := Aside0.mk ha
      have B0 := Aside0.mk Q_B0
      have F7 := Aside0.mk (Q_F7 (hon 7 (by kernel_rfl)) hb_)
      refine goes_ Tryd.func10 (by kernel_rfl) rfl #[.slice A7 n2 c7, .int .i64 0] (by rfl) rfl rfl (by first | (simp only [List.map_toArray, List.map_cons, List.map_nil, Act.eval, Array.getD_eq_getD_getElem?, Option.getD_some, e33]; done) | (simp only [List.map_toArray, List.map_cons, List.map_nil, Act.eval, Array.getD_eq_getD_getElem?, Option.getD_some, e33]; rfl)) ?_
      with_reducible refine (parse_call (rep n1 [tE4] ++ [tSt]) n2 HL2.out nb r2 r3 r4 HPA.out w' A7 c7 F7.out.1 F7.out.2 (HGD.out.below B0.out)).mono ?_
      rintro e w1 ⟨A8', c8', rfl, hb⟩
      refine ⟨_, rfl, ?_⟩
      refine hK.out _ _ ⟨q1, A4, c4, q6, A7, c7, A8', c8', gb, m1_, m4_, m6_, m7_, (.tuple #[.agg #[.slice A8' nb c8', .int .i64 r2], .int .i64 r3, .int .i64 r4]), m9_, m10_, m13_, (by rw [ha.out]; exact putSel_upk 7 hb_ rfl rfl rfl), (B0.out.trans (hb.mono B0.out.size)), fun _ h1_ => absurd ((hon 4 (by kernel_rfl)).symm.trans h1_) (by decide), fun _ h1_ => absurd ((hon 7 (by kernel_rfl)).symm.trans h1_) (by decide), fun _ h1_ => absurd ((hon 7 (by kernel_rfl)).symm.trans h1_) (by decide), fun _ h1_ => absurd ((up_self b 8).symm.trans h1_) (by decide), fun h0_ h1_ => ⟨blk_below (Q_F13 h0_ h1_).1 hb, (Q_F13 h0_ h1_).2⟩, fun _ _ h2_ => absurd ((hon 7 (by kernel_rfl)).symm.trans h2_) (by decide), fun h0_ => absurd ((hoff 14 (by kernel_rfl)).symm.trans h0_) (by decide), Q_X1_, Q_X4_, Q_X6_, Q_X7_, fun _ => rfl, fun h0_ => absurd ((hoff 9 (by kernel_rfl)).symm.trans h0_) (by decide), fun h0_ => absurd ((hoff 10 (by kernel_rfl)).symm.trans h0_) (by decide), Q_X13_⟩
    refine steps_cons ?_ ?_
    · rintro b a w' ⟨q1, A4, c4, q6, A7, c7, A8, c8, gb, m1_, m4_, m6_, m7_, m8_, m9_, m10_, m13_, ha, Q_B0, Q_F1, Q_F4, Q_F6, Q_F7, Q_F13, Q_FX, Q_F14, Q_X1_, Q_X4_, Q_X6_, Q_X7_, Q_X8_, Q_X9_, Q_X10_, Q_X13_⟩ hb_ hon hoff
      refine ⟨_, rfl, fun K hK => ?_⟩
      have e34 : a.tmps[34]? = some (m8_) := by rw [ha]; exact putSel_on (e := (8, 34, m8_)) 7 rfl rfl (hon 8 (by kernel_rfl)) rfl
      rw [Q_X8_ (hon 8 (by kernel_rfl))] at e34
      replace ha := Aside0.mk ha
      have B0 := Aside0.mk Q_B0
      refine value_ (w1 := w') (v := .tuple #[.agg #[.slice A8 nb c8, .int .i64 r2], .int .i64 r3, .int .i64 r4]) (by rfl) rfl ?_ ?_
      · go_simp
        (try simp only [i64_w])
        try rfl
      refine hK.out _ _ ⟨q1, A4, c4, q6, A7, c7, A8, c8, gb, m1_, m4_, m6_, m7_, m8_, (.tuple #[.agg #[.slice A8 nb c8, .int .i64 r2], .int .i64 r3, .int .i64 r4]), m10_, m13_, (by rw [ha.out]; exact putSel_upk 8 hb_ rfl rfl rfl), Q_B0, fun _ h1_ => absurd ((hon 4 (by kernel_rfl)).symm.trans h1_) (by decide), fun _ h1_ => absurd ((hon 7 (by kernel_rfl)).symm.trans h1_) (by decide), fun _ h1_ => absurd ((hon 7 (by kernel_rfl)).symm.trans h1_) (by decide), fun _ h1_ => absurd ((hon 8 (by kernel_rfl)).symm.trans h1_) (by decide), Q_F13, fun _ _ h2_ => absurd ((hon 7 (by kernel_rfl)).symm.trans h2_) (by decide), fun h0_ => absurd ((hoff 14 (by kernel_rfl)).symm.trans h0_) (by decide), Q_X1_, Q_X4_, Q_X6_, Q_X7_, Q_X8_, fun _ => rfl, fun h0_ => absurd ((hoff 10 (by kernel_rfl)).symm.trans h0_) (by decide), Q_X13_⟩
    refine steps_cons ?_ ?_
    · rintro b a w' ⟨q1, A4, c4, q6, A7, c7, A8, c8, gb, m1_, m4_, m6_, m7_, m8_, m9_, m10_, m13_, ha, Q_B0, Q_F1, Q_F4, Q_F6, Q_F7, Q_F13, Q_FX, Q_F14, Q_X1_, Q_X4_, Q_X6_, Q_X7_, Q_X8_, Q_X9_, Q_X10_, Q_X13_⟩ hb_ hon hoff
      refine ⟨_, rfl, fun K hK => ?_⟩
      have e25 : a.tmps[25]? = some (m9_) := by rw [ha]; exact putSel_on (e := (9, 25, m9_)) 8 rfl rfl (hon 9 (by kernel_rfl)) rfl
      rw [Q_X9_ (hon 9 (by kernel_rfl))] at e25
      replace ha := Aside0.mk ha
      have B0 := Aside0.mk Q_B0
      refine value_ (w1 := w') (v := .agg #[.slice A8 nb c8, .int .i64 r2]) (by rfl) rfl ?_ ?_
      · go_simp
        (try simp only [i64_w])
        try rfl
      refine hK.out _ _ ⟨q1, A4, c4, q6, A7, c7, A8, c8, gb, m1_, m4_, m6_, m7_, m8_, m9_, (.agg #[.slice A8 nb c8, .int .i64 r2]), m13_, (by rw [ha.out]; exact putSel_upk 9 hb_ rfl rfl rfl), Q_B0, fun _ h1_ => absurd ((hon 4 (by kernel_rfl)).symm.trans h1_) (by decide), fun _ h1_ => absurd ((hon 7 (by kernel_rfl)).symm.trans h1_) (by decide), fun _ h1_ => absurd ((hon 7 (by kernel_rfl)).symm.trans h1_) (by decide), fun _ h1_ => absurd ((hon 8 (by kernel_rfl)).symm.trans h1_) (by decide), Q_F13, fun _ _ h2_ => absurd ((hon 7 (by kernel_rfl)).symm.trans h2_) (by decide), fun h0_ => absurd ((hoff 14 (by kernel_rfl)).symm.trans h0_) (by decide), Q_X1_, Q_X4_, Q_X6_, Q_X7_, Q_X8_, Q_X9_, fun _ => rfl, Q_X13_⟩
    refine steps_cons ?_ ?_
    · rintro b a w' ⟨q1, A4, c4, q6, A7, c7, A8, c8, gb, m1_, m4_, m6_, m7_, m8_, m9_, m10_, m13_, ha, Q_B0, Q_F1, Q_F4, Q_F6, Q_F7, Q_F13, Q_FX, Q_F14, Q_X1_, Q_X4_, Q_X6_, Q_X7_, Q_X8_, Q_X9_, Q_X10_, Q_X13_⟩ hb_ hon hoff
      refine ⟨_, rfl, fun K hK => ?_⟩
      have e25 : a.tmps[25]? = some (m9_) := by rw [ha]; exact putSel_on (e := (9, 25, m9_)) 8 rfl rfl (hon 9 (by kernel_rfl)) rfl
      rw [Q_X9_ (hon 9 (by kernel_rfl))] at e25
      replace ha := Aside0.mk ha
      have B0 := Aside0.mk Q_B0
      refine value_ (w1 := w') (v := .int .i64 r3) (by rfl) rfl ?_ ?_
      · go_simp
        (try simp only [i64_w])
        try rfl
      refine hK.out _ _ ⟨q1, A4, c4, q6, A7, c7, A8, c8, gb, m1_, m4_, m6_, m7_, m8_, m9_, m10_, m13_, (by rw [ha.out]; exact putSel_upk 10 hb_ rfl rfl rfl), Q_B0, fun _ h1_ => absurd ((hon 4 (by kernel_rfl)).symm.trans h1_) (by decide), fun _ h1_ => absurd ((hon 7 (by kernel_rfl)).symm.trans h1_) (by decide), fun _ h1_ => absurd ((hon 7 (by kernel_rfl)).symm.trans h1_) (by decide), fun _ h1_ => absurd ((hon 8 (by kernel_rfl)).symm.trans h1_) (by decide), Q_F13, fun _ _ h2_ => absurd ((hon 7 (by kernel_rfl)).symm.trans h2_) (by decide), Q_F14, Q_X1_, Q_X4_, Q_X6_, Q_X7_, Q_X8_, Q_X9_, Q_X10_, Q_X13_⟩
    refine steps_cons ?_ ?_
    · rintro b a w' ⟨q1, A4, c4, q6, A7, c7, A8, c8, gb, m1_, m4_, m6_, m7_, m8_, m9_, m10_, m13_, ha, Q_B0, Q_F1, Q_F4, Q_F6, Q_F7, Q_F13, Q_FX, Q_F14, Q_X1_, Q_X4_, Q_X6_, Q_X7_, Q_X8_, Q_X9_, Q_X10_, Q_X13_⟩ hb_ hon hoff
      refine ⟨_, rfl, fun K hK => ?_⟩
      have e25 : a.tmps[25]? = some (m9_) := by rw [ha]; exact putSel_on (e := (9, 25, m9_)) 8 rfl rfl (hon 9 (by kernel_rfl)) rfl
      rw [Q_X9_ (hon 9 (by kernel_rfl))] at e25
      replace ha := Aside0.mk ha
      have B0 := Aside0.mk Q_B0
      refine value_ (w1 := w') (v := .int .i64 r4) (by rfl) rfl ?_ ?_
      · go_simp
        (try simp only [i64_w])
        try rfl
      refine hK.out _ _ ⟨q1, A4, c4, q6, A7, c7, A8, c8, gb, m1_, m4_, m6_, m7_, m8_, m9_, m10_, m13_, (by rw [ha.out]; exact putSel_upk 11 hb_ rfl rfl rfl), Q_B0, fun _ h1_ => absurd ((hon 4 (by kernel_rfl)).symm.trans h1_) (by decide), fun _ h1_ => absurd ((hon 7 (by kernel_rfl)).symm.trans h1_) (by decide), fun _ h1_ => absurd ((hon 7 (by kernel_rfl)).symm.trans h1_) (by decide), fun _ h1_ => absurd ((hon 8 (by kernel_rfl)).symm.trans h1_) (by decide), Q_F13, fun _ _ h2_ => absurd ((hon 7 (by kernel_rfl)).symm.trans h2_) (by decide), Q_F14, Q_X1_, Q_X4_, Q_X6_, Q_X7_, Q_X8_, Q_X9_, Q_X10_, Q_X13_⟩
    refine steps_cons ?_ ?_
    · rintro b a w' ⟨q1, A4, c4, q6, A7, c7, A8, c8, gb, m1_, m4_, m6_, m7_, m8_, m9_, m10_, m13_, ha, Q_B0, Q_F1, Q_F4, Q_F6, Q_F7, Q_F13, Q_FX, Q_F14, Q_X1_, Q_X4_, Q_X6_, Q_X7_, Q_X8_, Q_X9_, Q_X10_, Q_X13_⟩ hb_ hon hoff
      refine ⟨_, rfl, fun K hK => ?_⟩
      replace ha := Aside0.mk ha
      have B0 := Aside0.mk Q_B0
      have hb : Below w'.heap.size w' (w'.alloc (.cells #[.slice none 0 0, .int .i64 0] 27)) := (Below.refl _ _).alloc (Nat.le_refl _) _
      refine value_ (w1 := w'.alloc (.cells #[.slice none 0 0, .int .i64 0] 27)) (v := .pointer (some ⟨w'.heap.size, 0, none⟩)) (by rfl) rfl ?_ ?_
      · go_simp
        try rfl
      refine hK.out _ _ ⟨q1, A4, c4, q6, A7, c7, A8, c8, w'.heap.size, m1_, m4_, m6_, m7_, m8_, m9_, m10_, (.pointer (some ⟨w'.heap.size, 0, none⟩)), (by rw [ha.out]; exact putSel_upk 12 hb_ rfl rfl rfl), (B0.out.trans (hb.mono B0.out.size)), fun h0_ h1_ => Kd.C_below (Q_F1 h0_ h1_) hb, fun h0_ h1_ => Kd.R_below (Q_F4 h0_ h1_) hb, fun h0_ h1_ => Kd.C_below (Q_F6 h0_ h1_) hb, fun h0_ h1_ => ⟨Kd.C_below (Q_F7 h0_ h1_).1 hb, (Q_F7 h0_ h1_).2⟩, fun _ _ => ⟨blk_new w' _, B0.out.size⟩, fun h4_ _ h7_ => own_new (Q_F4 h4_ h7_), fun h0_ => absurd ((hoff 14 (by kernel_rfl)).symm.trans h0_) (by decide), Q_X1_, Q_X4_, Q_X6_, Q_X7_, Q_X8_, Q_X9_, Q_X10_, fun _ => rfl⟩
    refine steps_cons ?_ ?_
    · rintro b a w' ⟨q1, A4, c4, q6, A7, c7, A8, c8, gb, m1_, m4_, m6_, m7_, m8_, m9_, m10_, m13_, ha, Q_B0, Q_F1, Q_F4, Q_F6, Q_F7, Q_F13, Q_FX, Q_F14, Q_X1_, Q_X4_, Q_X6_, Q_X7_, Q_X8_, Q_X9_, Q_X10_, Q_X13_⟩ hb_ hon hoff
      refine ⟨_, rfl, fun K hK => ?_⟩
      have e6 : a.tmps[6]? = some (m13_) := by rw [ha]; exact putSel_on (e := (13, 6, m13_)) 12 rfl rfl (hon 13 (by kernel_rfl)) rfl
      rw [Q_X13_ (hon 13 (by kernel_rfl))] at e6
      have e35 : a.tmps[35]? = some (m10_) := by rw [ha]; exact putSel_on (e := (10, 35, m10_)) 9 rfl rfl (hon 10 (by kernel_rfl)) rfl
      rw [Q_X10_ (hon 10 (by kernel_rfl))] at e35
      replace ha := Aside0.mk ha
      have B0 := Aside0.mk Q_B0
      have F13 := Aside0.mk (Q_F13 (hon 13 (by kernel_rfl)) hb_)
      have hs0 : w'.cell? ⟨gb, 0, none⟩ = some (.slice none 0 0) := (blk_cell F13.out.1 0).trans rfl
      have hf0 := blk_frozen F13.out.1 0
      have hs1 : w'.cell? ⟨gb, 1, none⟩ = some (.int .i64 0) := (blk_cell F13.out.1 1).trans rfl
      have hf1 := blk_frozen F13.out.1 1
      refine skip_ (w1 := (w'.setCell ⟨gb, 0, none⟩ (.slice A8 nb c8)).setCell ⟨gb, 1, none⟩ (.int .i64 r2)) (by rfl) rfl ?_ ?_
      · go_simp
        try rfl
      refine hK.out _ _ ⟨q1, A4, c4, q6, A7, c7, A8, c8, gb, m1_, m4_, m6_, m7_, m8_, m9_, m10_, m13_, (by rw [ha.out]; exact putSel_none (v := undef) rfl), below_set (below_set B0.out F13.out.2) F13.out.2, fun _ h1_ => absurd ((hon 4 (by kernel_rfl)).symm.trans h1_) (by decide), fun _ h1_ => absurd ((hon 7 (by kernel_rfl)).symm.trans h1_) (by decide), fun _ h1_ => absurd ((hon 7 (by kernel_rfl)).symm.trans h1_) (by decide), fun _ h1_ => absurd ((hon 8 (by kernel_rfl)).symm.trans h1_) (by decide), fun _ h1_ => absurd ((up_self b 14).symm.trans h1_) (by decide), fun _ _ h2_ => absurd ((hon 7 (by kernel_rfl)).symm.trans h2_) (by decide), fun _ => ⟨blk_put (blk_put F13.out.1 0 _ rfl) 1 _ rfl, F13.out.2⟩, Q_X1_, Q_X4_, Q_X6_, Q_X7_, Q_X8_, Q_X9_, Q_X10_, Q_X13_⟩
    refine steps_cons ?_ ?_
    · rintro b a w' ⟨q1, A4, c4, q6, A7, c7, A8, c8, gb, m1_, m4_, m6_, m7_, m8_, m9_, m10_, m13_, ha, Q_B0, Q_F1, Q_F4, Q_F6, Q_F7, Q_F13, Q_FX, Q_F14, Q_X1_, Q_X4_, Q_X6_, Q_X7_, Q_X8_, Q_X9_, Q_X10_, Q_X13_⟩ hb_ hon hoff
      refine ⟨_, rfl, fun K hK => ?_⟩
      have e36 : a.tmps[36]? = some (.int .i64 r3) := by rw [ha]; exact putSel_on (e := (11, 36, .int .i64 r3)) 10 rfl rfl (hon 11 (by kernel_rfl)) rfl
      replace ha := Aside0.mk ha
      have B0 := Aside0.mk Q_B0
      have F14 := Aside0.mk (Q_F14 (hon 14 (by kernel_rfl)))
      refine value_ (w1 := w') (v := .int .i64 r3) (by rfl) rfl ?_ ?_
      · go_simp
        (try simp only [i64_w])
        try rfl
      refine hK.out _ _ ⟨q1, A4, c4, q6, A7, c7, A8, c8, gb, m1_, m4_, m6_, m7_, m8_, m9_, m10_, m13_, (by rw [ha.out]; exact putSel_upk 13 hb_ rfl rfl rfl), Q_B0, fun _ h1_ => absurd ((hon 4 (by kernel_rfl)).symm.trans h1_) (by decide), fun _ h1_ => absurd ((hon 7 (by kernel_rfl)).symm.trans h1_) (by decide), fun _ h1_ => absurd ((hon 7 (by kernel_rfl)).symm.trans h1_) (by decide), fun _ h1_ => absurd ((hon 8 (by kernel_rfl)).symm.trans h1_) (by decide), fun _ h1_ => absurd ((hon 14 (by kernel_rfl)).symm.trans h1_) (by decide), fun _ _ h2_ => absurd ((hon 7 (by kernel_rfl)).symm.trans h2_) (by decide), Q_F14, Q_X1_, Q_X4_, Q_X6_, Q_X7_, Q_X8_, Q_X9_, Q_X10_, Q_X13_⟩
    refine steps_cons ?_ ?_
    · rintro b a w' ⟨q1, A4, c4, q6, A7, c7, A8, c8, gb, m1_, m4_, m6_, m7_, m8_, m9_, m10_, m13_, ha, Q_B0, Q_F1, Q_F4, Q_F6, Q_F7, Q_F13, Q_FX, Q_F14, Q_X1_, Q_X4_, Q_X6_, Q_X7_, Q_X8_, Q_X9_, Q_X10_, Q_X13_⟩ hb_ hon hoff
      refine ⟨_, rfl, fun K hK => ?_⟩
      have e37 : a.tmps[37]? = some (.int .i64 r4) := by rw [ha]; exact putSel_on (e := (12, 37, .int .i64 r4)) 11 rfl rfl (hon 12 (by kernel_rfl)) rfl
      replace ha := Aside0.mk ha
      have B0 := Aside0.mk Q_B0
      have F14 := Aside0.mk (Q_F14 (hon 14 (by kernel_rfl)))
      refine value_ (w1 := w') (v := .int .i64 r4) (by rfl) rfl ?_ ?_
      · go_simp
        (try simp only [i64_w])
        try rfl
      refine hK.out _ _ ⟨q1, A4, c4, q6, A7, c7, A8, c8, gb, m1_, m4_, m6_, m7_, m8_, m9_, m10_, m13_, (by rw [ha.out]; exact putSel_upk 14 hb_ rfl rfl rfl), Q_B0, fun _ h1_ => absurd ((hon 4 (by kernel_rfl)).symm.trans h1_) (by decide), fun _ h1_ => absurd ((hon 7 (by kernel_rfl)).symm.trans h1_) (by decide), fun _ h1_ => absurd ((hon 7 (by kernel_rfl)).symm.trans h1_) (by decide), fun _ h1_ => absurd ((hon 8 (by kernel_rfl)).symm.trans h1_) (by decide), fun _ h1_ => absurd ((hon 14 (by kernel_rfl)).symm.trans h1_) (by decide), fun _ _ h2_ => absurd ((hon 7 (by kernel_rfl)).symm.trans h2_) (by decide), Q_F14, Q_X1_, Q_X4_, Q_X6_, Q_X7_, Q_X8_, Q_X9_, Q_X10_, Q_X13_⟩
    exact steps_nil
  · rintro b a w' hall ⟨q1, A4, c4, q6, A7, c7, A8, c8, gb, m1_, m4_, m6_, m7_, m8_, m9_, m10_, m13_, ha, Q_B0, Q_F1, Q_F4, Q_F6, Q_F7, Q_F13, Q_FX, Q_F14, Q_X1_, Q_X4_, Q_X6_, Q_X7_, Q_X8_, Q_X9_, Q_X10_, Q_X13_⟩
    have hb0_ := hall 0 (by kernel_rfl)
    have hb1_ := hall 1 (by kernel_rfl)
    have hb3_ := hall 3 (by kernel_rfl)
    have hb4_ := hall 4 (by kernel_rfl)
    have hb5_ := hall 5 (by kernel_rfl)
    have hb6_ := hall 6 (by kernel_rfl)
    have hb7_ := hall 7 (by kernel_rfl)
    have hb8_ := hall 8 (by kernel_rfl)
    have hb9_ := hall 9 (by kernel_rfl)
    have hb10_ := hall 10 (by kernel_rfl)
    have hb11_ := hall 11 (by kernel_rfl)
    have hb12_ := hall 12 (by kernel_rfl)
    have hb13_ := hall 13 (by kernel_rfl)
    have hb14_ := hall 14 (by kernel_rfl)
    have hb15_ := hall 15 (by kernel_rfl)
    have hb16_ := hall 16 (by kernel_rfl)
    subst ha
    obtain rfl := Q_X1_ hb1_
    obtain rfl := Q_X4_ hb4_
    obtain rfl := Q_X6_ hb6_
    obtain rfl := Q_X7_ hb7_
    obtain rfl := Q_X8_ hb8_
    obtain rfl := Q_X9_ hb9_
    obtain rfl := Q_X10_ hb10_
    obtain rfl := Q_X13_ hb13_
    simp only [putSel, hb0_, hb1_, hb3_, hb4_, hb5_, hb6_, hb7_, hb8_, hb9_, hb10_, hb11_, hb12_, hb13_, hb14_, hb15_, hb16_, if_true, Act.put, List.setIfInBounds_toArray, List.set_cons_zero, List.set_cons_succ]
    have B0 := Aside0.mk Q_B0
    clear Q_B0
    clear Q_F1
    clear Q_F4
    clear Q_F6
    clear Q_F7
    clear Q_F13
    clear Q_FX
    have F14 := Aside0.mk (Q_F14 hb14_)
    clear Q_F14
    clear hall hb0_ hb1_ hb3_ hb4_ hb5_ hb6_ hb7_ hb8_ hb9_ hb10_ hb11_ hb12_ hb13_ hb14_ hb15_ hb16_
    have HB5 := Aside0.mk (HBD.out.trans (B0.out.mono HBD.out.size))
    have HL5 := Aside0.mk (show Kd.C k46 (w'.alloc (.cells #[.int .i64 5, .string (⟨#[]⟩ : ByteArray), .int .i64 0, .int .i64 2, .string (⟨#[78]⟩ : ByteArray), .int .i64 0, .int .i64 1, .string (⟨#[]⟩ : ByteArray), .int .i64 0, .int .i64 6, .string (⟨#[]⟩ : ByteArray), .int .i64 0] 46)) (some ⟨w'.heap.size, 0, none⟩) 4 tags4 from lit46 w' tags4 4 rfl (by decide) _ rfl)
    go_upto_region 6 with (first
      | (go_at_call 26; (with_reducible refine (rep_call tags4 4 rfl m0 m1 HM1.out (24 + kk) HX2.out hm0 (by decide) hm3 hm4 (by decide) (w'.alloc (.cells #[.int .i64 5, .string (⟨#[]⟩ : ByteArray), .int .i64 0, .int .i64 2, .string (⟨#[78]⟩ : ByteArray), .int .i64 0, .int .i64 1, .string (⟨#[]⟩ : ByteArray), .int .i64 0, .int .i64 6, .string (⟨#[]⟩ : ByteArray), .int .i64 0] 46)) (some ⟨w'.heap.size, 0, none⟩) 4 HL5.out (Nat.le_refl _)).mono ?_); rintro e w5 ⟨A5, c5, rfl, hr5, hb5⟩; have HR5 := Aside0.mk (rep_reads hr5 ((rep_len _ _).trans HM1.out)); have HB51 := Aside0.mk hb5; have HTC := Aside0.mk (tags_call (rep m0 tags4) m1 ((rep_len _ _).trans HM1.out) mb u3 u4 HTA.out w5 A5 c5 HR5.out.1 HR5.out.2); clear hr5 hb5)
      | (go_at_call 11; (with_reducible refine HTC.out.mono ?_); rintro e w6 ⟨A9, c9, rfl, hb6⟩; have HB6 := Aside0.mk hb6; clear hb6))
    have HB7 := Aside0.mk (show Below w'.heap.size w' w6 from (((Below.refl _ _).alloc (Nat.le_refl _) _).trans (HB51.out.mono (by rw [World.size_alloc]; omega))).trans (HB6.out.mono (by have := HB51.out.size; rw [World.size_alloc] at this; omega)))
    have HBE := Aside0.mk (below_drew1 (HB5.out.trans (HB7.out.mono HB5.out.size)))
    have HGE := Aside0.mk (HG.out.below HBE.out)
    have HB14 := Aside0.mk (blk_drew (blk_below F14.out.1 HB7.out))
    replace CE0 := Aside0.mk (keepc (keepc CE0.out B0.out) (below_drew1 HB7.out))
    replace CE1 := Aside0.mk (keepc (keepc CE1.out B0.out) (below_drew1 HB7.out))
    replace CE2 := Aside0.mk (keepc (keepc CE2.out B0.out) (below_drew1 HB7.out))
    replace CS0 := Aside0.mk (keepc (keepc CS0.out B0.out) (below_drew1 HB7.out))
    replace CS1 := Aside0.mk (keepc (keepc CS1.out B0.out) (below_drew1 HB7.out))
    replace CS2 := Aside0.mk (keepc (keepc CS2.out B0.out) (below_drew1 HB7.out))
    clear HTC HB5 HL5 HB51 HR5 HB6 HB7 F14 B0 HBD HGD hHeld
    refine start_ (n := 12) (S := fun w' => True) (ds := []) #[false, false, false, false, false, false, false, false, false, false, false, false] (by kernel_rfl) rfl rfl trivial (fun hHeld => ?_); refine with_tabW lgtab6 lgbits6 (fun HT_ HW_ => ?_)
    generalize w6.drew = we at HBE CE0 CE1 CE2 CS0 CS1 CS2 HGE HB14 hHeld ⊢
    refine pure_ (i := 0) (N := some 51) (v := ?_) (a' := ?_) #[true, false, false, false, false, false, false, false, false, false, false, false] rfl rfl (any_of HT_.out (by kernel_rfl)) (fun _ _ _ h => h) (Or.inl ⟨by rfl, ?_⟩) ?_ ?_
    rotate_left
    · intro w'
      go_simp
      with_reducible rfl
    rotate_left
    · simp only [Act.put, List.setIfInBounds_toArray, List.set_cons_zero, List.set_cons_succ, i64_w, i32_w]
      rfl
    refine pure_ (i := 4) (N := some 55) (v := ?_) (a' := ?_) #[true, false, false, false, true, false, false, false, false, false, false, false] rfl rfl (any_of HT_.out (by kernel_rfl)) (fun _ _ _ h => h) (Or.inl ⟨by rfl, ?_⟩) ?_ ?_
    rotate_left
    · intro w'
      go_simp
      with_reducible rfl
    rotate_left
    · simp only [Act.put, List.setIfInBounds_toArray, List.set_cons_zero, List.set_cons_succ, i64_w, i32_w]
      rfl
    refine inv_at [1, 2, 3, 5, 6, 7, 8, 9, 10, 11] (fun a0_ b a w' => ∃ (q2 : Nat) (A3 : Option Addr) (c3 : Nat) (q5 : Nat) (A6 : Option Addr) (c6 : Nat) (q8 : Nat) (q9 : Nat) (A10 : Option Addr) (c10 : Nat) (m2_ : Value) (m3_ : Value) (m5_ : Value) (m6_ : Value) (m8_ : Value) (m9_ : Value) (m10_ : Value) (m11_ : Value), a = putSel a0_ b [(1, 52, .agg #[.int .i64 2, .string (⟨#[101, 52]⟩ : ByteArray), .int .i64 0]), (2, 53, m2_), (3, 54, m3_), (5, 56, m5_), (6, 57, m6_), (7, 58, .agg #[.int .i64 4, .string (⟨#[42]⟩ : ByteArray), .int .i64 0]), (8, 59, m8_), (9, 60, m9_), (10, 61, m10_), (11, 12, m11_)] ∧ (Below we.heap.size we w') ∧ (b 2 = true → b 3 = false → Kd.C k46 w' (some ⟨q2, 0, none⟩) 2 [tK 7, tE4]) ∧ (b 3 = true → b 9 = false → Kd.C k46 w' A3 1200 (rep 600 [tK 7, tE4]) ∧ 1200 ≤ c3) ∧ (b 5 = true → b 6 = false → Kd.C k46 w' (some ⟨q5, 0, none⟩) 1 [tK 8]) ∧ (b 6 = true → b 9 = false → Kd.C k46 w' A6 600 (rep 600 [tK 8]) ∧ 600 ≤ c6) ∧ (b 8 = true → b 9 = false → Kd.C k46 w' (some ⟨q8, 0, none⟩) 1 [tSt]) ∧ (b 9 = true → b 10 = false → Kd.C (Kd.slice 46 k46) w' (some ⟨q9, 0, none⟩) 3 [rep 600 [tK 7, tE4], rep 600 [tK 8], [tSt]]) ∧ (b 10 = true → Kd.C k46 w' A10 1801 deepL ∧ 1801 ≤ c10) ∧ (b 2 = true → (m2_ : Value) = .slice (some ⟨q2, 0, none⟩) 2 2) ∧ (b 3 = true → (m3_ : Value) = .slice A3 1200 c3) ∧ (b 5 = true → (m5_ : Value) = .slice (some ⟨q5, 0, none⟩) 1 1) ∧ (b 6 = true → (m6_ : Value) = .slice A6 600 c6) ∧ (b 8 = true → (m8_ : Value) = .slice (some ⟨q8, 0, none⟩) 1 1) ∧ (b 9 = true → (m9_ : Value) = .slice (some ⟨q9, 0, none⟩) 3 3) ∧ (b 10 = true → (m10_ : Value) = .slice A10 1801 c10) ∧ (b 11 = true → (m11_ : Value) = .slice A10 1801 c10)) HT_.out HW_.out (by kernel_rfl) (by kernel_rfl) ?_ ?_ ?_
    · exact ⟨0, none, 0, 0, none, 0, 0, 0, none, 0, .bool false, .bool false, .bool false, .bool false, .bool false, .bool false, .bool false, .bool false, by simp only [putSel, Bool.false_eq_true, if_false], Below.refl _ _, fun h_ => absurd h_ (by decide), fun h_ => absurd h_ (by decide), fun h_ => absurd h_ (by decide), fun h_ => absurd h_ (by decide), fun h_ => absurd h_ (by decide), fun h_ => absurd h_ (by decide), fun h_ => absurd h_ (by decide), fun h_ => absurd h_ (by decide), fun h_ => absurd h_ (by decide), fun h_ => absurd h_ (by decide), fun h_ => absurd h_ (by decide), fun h_ => absurd h_ (by decide), fun h_ => absurd h_ (by decide), fun h_ => absurd h_ (by decide), fun h_ => absurd h_ (by decide)⟩
    · skip
      refine steps_cons ?_ ?_
      · rintro b a w' ⟨q2, A3, c3, q5, A6, c6, q8, q9, A10, c10, m2_, m3_, m5_, m6_, m8_, m9_, m10_, m11_, ha, Q_B0, Q_F2, Q_F3, Q_F5, Q_F6, Q_F8, Q_F9, Q_F10, Q_X2_, Q_X3_, Q_X5_, Q_X6_, Q_X8_, Q_X9_, Q_X10_, Q_X11_⟩ hb_ hon hoff
        refine ⟨_, rfl, fun K hK => ?_⟩
        have e4 : a.tmps[4]? = some (.pointer (some ⟨g, 0, none⟩)) := by rw [ha]; exact (putSel_off rfl).trans rfl
        replace ha := Aside0.mk ha
        have B0 := Aside0.mk Q_B0
        have x0_0 : w'.cell? ⟨g, 0, none⟩ = some (.int .i64 2) := (B0.out.cell (World.block_lt_of_cell? _ _ CE0.out)).trans CE0.out
        have x0_1 : w'.cell? ⟨g, 1, none⟩ = some (.string (⟨#[101, 52]⟩ : ByteArray)) := (B0.out.cell (World.block_lt_of_cell? _ _ CE1.out)).trans CE1.out
        have x0_2 : w'.cell? ⟨g, 2, none⟩ = some (.int .i64 0) := (B0.out.cell (World.block_lt_of_cell? _ _ CE2.out)).trans CE2.out
        refine value_ (w1 := w') (v := .agg #[.int .i64 2, .string (⟨#[101, 52]⟩ : ByteArray), .int .i64 0]) (by rfl) rfl ?_ ?_
        · go_simp
          (try simp only [i64_w])
          try rfl
        refine hK.out _ _ ⟨q2, A3, c3, q5, A6, c6, q8, q9, A10, c10, m2_, m3_, m5_, m6_, m8_, m9_, m10_, m11_, (by rw [ha.out]; exact putSel_upk 0 hb_ rfl rfl rfl), Q_B0, fun h0_ _ => absurd ((hoff 2 (by kernel_rfl)).symm.trans h0_) (by decide), fun h0_ _ => absurd ((hoff 3 (by kernel_rfl)).symm.trans h0_) (by decide), Q_F5, fun h0_ _ => absurd ((hoff 6 (by kernel_rfl)).symm.trans h0_) (by decide), Q_F8, fun h0_ _ => absurd ((hoff 9 (by kernel_rfl)).symm.trans h0_) (by decide), fun h0_ => absurd ((hoff 10 (by kernel_rfl)).symm.trans h0_) (by decide), fun h0_ => absurd ((hoff 2 (by kernel_rfl)).symm.trans h0_) (by decide), fun h0_ => absurd ((hoff 3 (by kernel_rfl)).symm.trans h0_) (by decide), Q_X5_, fun h0_ => absurd ((hoff 6 (by kernel_rfl)).symm.trans h0_) (by decide), Q_X8_, fun h0_ => absurd ((hoff 9 (by kernel_rfl)).symm.trans h0_) (by decide), fun h0_ => absurd ((hoff 10 (by kernel_rfl)).symm.trans h0_) (by decide), fun h0_ => absurd ((hoff 11 (by kernel_rfl)).symm.trans h0_) (by decide)⟩
      refine steps_cons ?_ ?_
      · rintro b a w' ⟨q2, A3, c3, q5, A6, c6, q8, q9, A10, c10, m2_, m3_, m5_, m6_, m8_, m9_, m10_, m11_, ha, Q_B0, Q_F2, Q_F3, Q_F5, Q_F6, Q_F8, Q_F9, Q_F10, Q_X2_, Q_X3_, Q_X5_, Q_X6_, Q_X8_, Q_X9_, Q_X10_, Q_X11_⟩ hb_ hon hoff
        refine ⟨_, rfl, fun K hK => ?_⟩
        have e51 : a.tmps[51]? = some (.agg #[.int .i64 7, .string (⟨#[]⟩ : ByteArray), .int .i64 0]) := by rw [ha]; exact (putSel_off rfl).trans rfl
        have e52 : a.tmps[52]? = some (.agg #[.int .i64 2, .string (⟨#[101, 52]⟩ : ByteArray), .int .i64 0]) := by rw [ha]; exact putSel_on (e := (1, 52, .agg #[.int .i64 2, .string (⟨#[101, 52]⟩ : ByteArray), .int .i64 0])) 0 rfl rfl (hon 1 (by kernel_rfl)) rfl
        replace ha := Aside0.mk ha
        have B0 := Aside0.mk Q_B0
        have hb : Below w'.heap.size w' (w'.alloc (.cells #[.int .i64 7, .string (⟨#[]⟩ : ByteArray), .int .i64 0, .int .i64 2, .string (⟨#[101, 52]⟩ : ByteArray), .int .i64 0] 46)) := (Below.refl _ _).alloc (Nat.le_refl _) _
        refine value_ (w1 := w'.alloc (.cells #[.int .i64 7, .string (⟨#[]⟩ : ByteArray), .int .i64 0, .int .i64 2, .string (⟨#[101, 52]⟩ : ByteArray), .int .i64 0] 46)) (v := .slice (some ⟨w'.heap.size, 0, none⟩) 2 2) (by rfl) rfl ?_ ?_
        · go_simp
          try rfl
        refine hK.out _ _ ⟨w'.heap.size, A3, c3, q5, A6, c6, q8, q9, A10, c10, (.slice (some ⟨w'.heap.size, 0, none⟩) 2 2), m3_, m5_, m6_, m8_, m9_, m10_, m11_, (by rw [ha.out]; exact putSel_upk 1 hb_ rfl rfl rfl), (B0.out.trans (hb.mono B0.out.size)), fun _ _ => lit46 w' [tK 7, tE4] 2 rfl (by decide) _ rfl, fun h0_ _ => absurd ((hoff 3 (by kernel_rfl)).symm.trans h0_) (by decide), fun h0_ h1_ => Kd.C_below (Q_F5 h0_ h1_) hb, fun h0_ _ => absurd ((hoff 6 (by kernel_rfl)).symm.trans h0_) (by decide), fun h0_ h1_ => Kd.C_below (Q_F8 h0_ h1_) hb, fun h0_ _ => absurd ((hoff 9 (by kernel_rfl)).symm.trans h0_) (by decide), fun h0_ => absurd ((hoff 10 (by kernel_rfl)).symm.trans h0_) (by decide), fun _ => rfl, fun h0_ => absurd ((hoff 3 (by kernel_rfl)).symm.trans h0_) (by decide), Q_X5_, fun h0_ => absurd ((hoff 6 (by kernel_rfl)).symm.trans h0_) (by decide), Q_X8_, fun h0_ => absurd ((hoff 9 (by kernel_rfl)).symm.trans h0_) (by decide), fun h0_ => absurd ((hoff 10 (by kernel_rfl)).symm.trans h0_) (by decide), fun h0_ => absurd ((hoff 11 (by kernel_rfl)).symm.trans h0_) (by decide)⟩
      refine steps_cons ?_ ?_
      · rintro b a w' ⟨q2, A3, c3, q5, A6, c6, q8, q9, A10, c10, m2_, m3_, m5_, m6_, m8_, m9_, m10_, m11_, ha, Q_B0, Q_F2, Q_F3, Q_F5, Q_F6, Q_F8, Q_F9, Q_F10, Q_X2_, Q_X3_, Q_X5_, Q_X6_, Q_X8_, Q_X9_, Q_X10_, Q_X11_⟩ hb_ hon hoff
        refine ⟨_, rfl, fun K hK => ?_⟩
        have e53 : a.tmps[53]? = some (m2_) := by rw [ha]; exact putSel_on (e := (2, 53, m2_)) 1 rfl rfl (hon 2 (by kernel_rfl)) rfl
        rw [Q_X2_ (hon 2 (by kernel_rfl))] at e53
        replace ha := Aside0.mk ha
        have B0 := Aside0.mk Q_B0
        have F2 := Aside0.mk (Q_F2 (hon 2 (by kernel_rfl)) hb_)
        refine goes_ Tryd.func26 (by kernel_rfl) rfl #[.slice (some ⟨q2, 0, none⟩) 2 2, .int .i64 600] (by rfl) rfl rfl (by first | (simp only [List.map_toArray, List.map_cons, List.map_nil, Act.eval, Array.getD_eq_getD_getElem?, Option.getD_some, e53]; done) | (simp only [List.map_toArray, List.map_cons, List.map_nil, Act.eval, Array.getD_eq_getD_getElem?, Option.getD_some, e53]; rfl)) ?_
        with_reducible refine (rep_call [tK 7, tE4] 2 rfl 600 1200 rfl 600 rfl (by decide) (by decide) (by decide) (by decide) (by decide) w' (some ⟨q2, 0, none⟩) 2 F2.out (Nat.le_refl _)).mono ?_
        rintro e w1 ⟨A3', c3', rfl, hr, hb⟩
        refine ⟨_, rfl, ?_⟩
        refine hK.out _ _ ⟨q2, A3', c3', q5, A6, c6, q8, q9, A10, c10, m2_, (.slice A3' 1200 c3'), m5_, m6_, m8_, m9_, m10_, m11_, (by rw [ha.out]; exact putSel_upk 2 hb_ rfl rfl rfl), (B0.out.trans (hb.mono B0.out.size)), fun _ h1_ => absurd ((up_self b 3).symm.trans h1_) (by decide), fun _ _ => rep_reads hr (rep_len _ _), fun h0_ h1_ => Kd.C_below (Q_F5 h0_ h1_) hb, fun h0_ _ => absurd ((hoff 6 (by kernel_rfl)).symm.trans h0_) (by decide), fun h0_ h1_ => Kd.C_below (Q_F8 h0_ h1_) hb, fun h0_ _ => absurd ((hoff 9 (by kernel_rfl)).symm.trans h0_) (by decide), fun h0_ => absurd ((hoff 10 (by kernel_rfl)).symm.trans h0_) (by decide), Q_X2_, fun _ => rfl, Q_X5_, fun h0_ => absurd ((hoff 6 (by kernel_rfl)).symm.trans h0_) (by decide), Q_X8_, fun h0_ => absurd ((hoff 9 (by kernel_rfl)).symm.trans h0_) (by decide), fun h0_ => absurd ((hoff 10 (by kernel_rfl)).symm.trans h0_) (by decide), fun h0_ => absurd ((hoff 11 (by kernel_rfl)).symm.trans h0_) (by decide)⟩
      refine steps_cons ?_ ?_
      · rintro b a w' ⟨q2, A3, c3, q5, A6, c6, q8, q9, A10, c10, m2_, m3_, m5_, m6_, m8_, m9_, m10_, m11_, ha, Q_B0, Q_F2, Q_F3, Q_F5, Q_F6, Q_F8, Q_F9, Q_F10, Q_X2_, Q_X3_, Q_X5_, Q_X6_, Q_X8_, Q_X9_, Q_X10_, Q_X11_⟩ hb_ hon hoff
        refine ⟨_, rfl, fun K hK => ?_⟩
        have e55 : a.tmps[55]? = some (.agg #[.int .i64 8, .string (⟨#[]⟩ : ByteArray), .int .i64 0]) := by rw [ha]; exact (putSel_off rfl).trans rfl
        replace ha := Aside0.mk ha
        have B0 := Aside0.mk Q_B0
        have hb : Below w'.heap.size w' (w'.alloc (.cells #[.int .i64 8, .string (⟨#[]⟩ : ByteArray), .int .i64 0] 46)) := (Below.refl _ _).alloc (Nat.le_refl _) _
        refine value_ (w1 := w'.alloc (.cells #[.int .i64 8, .string (⟨#[]⟩ : ByteArray), .int .i64 0] 46)) (v := .slice (some ⟨w'.heap.size, 0, none⟩) 1 1) (by rfl) rfl ?_ ?_
        · go_simp
          try rfl
        refine hK.out _ _ ⟨q2, A3, c3, w'.heap.size, A6, c6, q8, q9, A10, c10, m2_, m3_, (.slice (some ⟨w'.heap.size, 0, none⟩) 1 1), m6_, m8_, m9_, m10_, m11_, (by rw [ha.out]; exact putSel_upk 3 hb_ rfl rfl rfl), (B0.out.trans (hb.mono B0.out.size)), fun h0_ h1_ => Kd.C_below (Q_F2 h0_ h1_) hb, fun h0_ h1_ => ⟨Kd.C_below (Q_F3 h0_ h1_).1 hb, (Q_F3 h0_ h1_).2⟩, fun _ _ => lit46 w' [tK 8] 1 rfl (by decide) _ rfl, fun h0_ _ => absurd ((hoff 6 (by kernel_rfl)).symm.trans h0_) (by decide), fun h0_ h1_ => Kd.C_below (Q_F8 h0_ h1_) hb, fun h0_ _ => absurd ((hoff 9 (by kernel_rfl)).symm.trans h0_) (by decide), fun h0_ => absurd ((hoff 10 (by kernel_rfl)).symm.trans h0_) (by decide), Q_X2_, Q_X3_, fun _ => rfl, fun h0_ => absurd ((hoff 6 (by kernel_rfl)).symm.trans h0_) (by decide), Q_X8_, fun h0_ => absurd ((hoff 9 (by kernel_rfl)).symm.trans h0_) (by decide), fun h0_ => absurd ((hoff 10 (by kernel_rfl)).symm.trans h0_) (by decide), fun h0_ => absurd ((hoff 11 (by kernel_rfl)).symm.trans h0_) (by decide)⟩
      refine steps_cons ?_ ?_
      · rintro b a w' ⟨q2, A3, c3, q5, A6, c6, q8, q9, A10, c10, m2_, m3_, m5_, m6_, m8_, m9_, m10_, m11_, ha, Q_B0, Q_F2, Q_F3, Q_F5, Q_F6, Q_F8, Q_F9, Q_F10, Q_X2_, Q_X3_, Q_X5_, Q_X6_, Q_X8_, Q_X9_, Q_X10_, Q_X11_⟩ hb_ hon hoff
        refine ⟨_, rfl, fun K hK => ?_⟩
        have e56 : a.tmps[56]? = some (m5_) := by rw [ha]; exact putSel_on (e := (5, 56, m5_)) 3 rfl rfl (hon 5 (by kernel_rfl)) rfl
        rw [Q_X5_ (hon 5 (by kernel_rfl))] at e56
        replace ha := Aside0.mk ha
        have B0 := Aside0.mk Q_B0
        have F3 := Aside0.mk (Q_F3 (hon 3 (by kernel_rfl)) (hoff 9 (by kernel_rfl)))
        have F5 := Aside0.mk (Q_F5 (hon 5 (by kernel_rfl)) hb_)
        refine goes_ Tryd.func26 (by kernel_rfl) rfl #[.slice (some ⟨q5, 0, none⟩) 1 1, .int .i64 600] (by rfl) rfl rfl (by first | (simp only [List.map_toArray, List.map_cons, List.map_nil, Act.eval, Array.getD_eq_getD_getElem?, Option.getD_some, e56]; done) | (simp only [List.map_toArray, List.map_cons, List.map_nil, Act.eval, Array.getD_eq_getD_getElem?, Option.getD_some, e56]; rfl)) ?_
        with_reducible refine (rep_call [tK 8] 1 rfl 600 600 rfl 600 rfl (by decide) (by decide) (by decide) (by decide) (by decide) w' (some ⟨q5, 0, none⟩) 1 F5.out (Nat.le_refl _)).mono ?_
        rintro e w1 ⟨A6', c6', rfl, hr, hb⟩
        refine ⟨_, rfl, ?_⟩
        refine hK.out _ _ ⟨q2, A3, c3, q5, A6', c6', q8, q9, A10, c10, m2_, m3_, m5_, (.slice A6' 600 c6'), m8_, m9_, m10_, m11_, (by rw [ha.out]; exact putSel_upk 4 hb_ rfl rfl rfl), (B0.out.trans (hb.mono B0.out.size)), fun _ h1_ => absurd ((hon 3 (by kernel_rfl)).symm.trans h1_) (by decide), fun _ _ => ⟨Kd.C_below F3.out.1 hb, F3.out.2⟩, fun _ h1_ => absurd ((up_self b 6).symm.trans h1_) (by decide), fun _ _ => rep_reads hr (rep_len _ _), fun h0_ h1_ => Kd.C_below (Q_F8 h0_ h1_) hb, fun h0_ _ => absurd ((hoff 9 (by kernel_rfl)).symm.trans h0_) (by decide), fun h0_ => absurd ((hoff 10 (by kernel_rfl)).symm.trans h0_) (by decide), Q_X2_, Q_X3_, Q_X5_, fun _ => rfl, Q_X8_, fun h0_ => absurd ((hoff 9 (by kernel_rfl)).symm.trans h0_) (by decide), fun h0_ => absurd ((hoff 10 (by kernel_rfl)).symm.trans h0_) (by decide), fun h0_ => absurd ((hoff 11 (by kernel_rfl)).symm.trans h0_) (by decide)⟩
      refine steps_cons ?_ ?_
      · rintro b a w' ⟨q2, A3, c3, q5, A6, c6, q8, q9, A10, c10, m2_, m3_, m5_, m6_, m8_, m9_, m10_, m11_, ha, Q_B0, Q_F2, Q_F3, Q_F5, Q_F6, Q_F8, Q_F9, Q_F10, Q_X2_, Q_X3_, Q_X5_, Q_X6_, Q_X8_, Q_X9_, Q_X10_, Q_X11_⟩ hb_ hon hoff
        refine ⟨_, rfl, fun K hK => ?_⟩
        have e5 : a.tmps[5]? = some (.pointer (some ⟨g + 1, 0, none⟩)) := by rw [ha]; exact (putSel_off rfl).trans rfl
        replace ha := Aside0.mk ha
        have B0 := Aside0.mk Q_B0
        have x5_0 : w'.cell? ⟨g + 1, 0, none⟩ = some (.int .i64 4) := (B0.out.cell (World.block_lt_of_cell? _ _ CS0.out)).trans CS0.out
        have x5_1 : w'.cell? ⟨g + 1, 1, none⟩ = some (.string (⟨#[42]⟩ : ByteArray)) := (B0.out.cell (World.block_lt_of_cell? _ _ CS1.out)).trans CS1.out
        have x5_2 : w'.cell? ⟨g + 1, 2, none⟩ = some (.int .i64 0) := (B0.out.cell (World.block_lt_of_cell? _ _ CS2.out)).trans CS2.out
        refine value_ (w1 := w') (v := .agg #[.int .i64 4, .string (⟨#[42]⟩ : ByteArray), .int .i64 0]) (by rfl) rfl ?_ ?_
        · go_simp
          (try simp only [i64_w])
          try rfl
        refine hK.out _ _ ⟨q2, A3, c3, q5, A6, c6, q8, q9, A10, c10, m2_, m3_, m5_, m6_, m8_, m9_, m10_, m11_, (by rw [ha.out]; exact putSel_upk 5 hb_ rfl rfl rfl), Q_B0, Q_F2, Q_F3, Q_F5, Q_F6, fun h0_ _ => absurd ((hoff 8 (by kernel_rfl)).symm.trans h0_) (by decide), fun h0_ _ => absurd ((hoff 9 (by kernel_rfl)).symm.trans h0_) (by decide), fun h0_ => absurd ((hoff 10 (by kernel_rfl)).symm.trans h0_) (by decide), Q_X2_, Q_X3_, Q_X5_, Q_X6_, fun h0_ => absurd ((hoff 8 (by kernel_rfl)).symm.trans h0_) (by decide), fun h0_ => absurd ((hoff 9 (by kernel_rfl)).symm.trans h0_) (by decide), fun h0_ => absurd ((hoff 10 (by kernel_rfl)).symm.trans h0_) (by decide), fun h0_ => absurd ((hoff 11 (by kernel_rfl)).symm.trans h0_) (by decide)⟩
      refine steps_cons ?_ ?_
      · rintro b a w' ⟨q2, A3, c3, q5, A6, c6, q8, q9, A10, c10, m2_, m3_, m5_, m6_, m8_, m9_, m10_, m11_, ha, Q_B0, Q_F2, Q_F3, Q_F5, Q_F6, Q_F8, Q_F9, Q_F10, Q_X2_, Q_X3_, Q_X5_, Q_X6_, Q_X8_, Q_X9_, Q_X10_, Q_X11_⟩ hb_ hon hoff
        refine ⟨_, rfl, fun K hK => ?_⟩
        have e58 : a.tmps[58]? = some (.agg #[.int .i64 4, .string (⟨#[42]⟩ : ByteArray), .int .i64 0]) := by rw [ha]; exact putSel_on (e := (7, 58, .agg #[.int .i64 4, .string (⟨#[42]⟩ : ByteArray), .int .i64 0])) 5 rfl rfl (hon 7 (by kernel_rfl)) rfl
        replace ha := Aside0.mk ha
        have B0 := Aside0.mk Q_B0
        have hb : Below w'.heap.size w' (w'.alloc (.cells #[.int .i64 4, .string (⟨#[42]⟩ : ByteArray), .int .i64 0] 46)) := (Below.refl _ _).alloc (Nat.le_refl _) _
        refine value_ (w1 := w'.alloc (.cells #[.int .i64 4, .string (⟨#[42]⟩ : ByteArray), .int .i64 0] 46)) (v := .slice (some ⟨w'.heap.size, 0, none⟩) 1 1) (by rfl) rfl ?_ ?_
        · go_simp
          try rfl
        refine hK.out _ _ ⟨q2, A3, c3, q5, A6, c6, w'.heap.size, q9, A10, c10, m2_, m3_, m5_, m6_, (.slice (some ⟨w'.heap.size, 0, none⟩) 1 1), m9_, m10_, m11_, (by rw [ha.out]; exact putSel_upk 6 hb_ rfl rfl rfl), (B0.out.trans (hb.mono B0.out.size)), fun h0_ h1_ => Kd.C_below (Q_F2 h0_ h1_) hb, fun h0_ h1_ => ⟨Kd.C_below (Q_F3 h0_ h1_).1 hb, (Q_F3 h0_ h1_).2⟩, fun h0_ h1_ => Kd.C_below (Q_F5 h0_ h1_) hb, fun h0_ h1_ => ⟨Kd.C_below (Q_F6 h0_ h1_).1 hb, (Q_F6 h0_ h1_).2⟩, fun _ _ => lit46 w' [tSt] 1 rfl (by decide) _ rfl, fun h0_ _ => absurd ((hoff 9 (by kernel_rfl)).symm.trans h0_) (by decide), fun h0_ => absurd ((hoff 10 (by kernel_rfl)).symm.trans h0_) (by decide), Q_X2_, Q_X3_, Q_X5_, Q_X6_, fun _ => rfl, fun h0_ => absurd ((hoff 9 (by kernel_rfl)).symm.trans h0_) (by decide), fun h0_ => absurd ((hoff 10 (by kernel_rfl)).symm.trans h0_) (by decide), fun h0_ => absurd ((hoff 11 (by kernel_rfl)).symm.trans h0_) (by decide)⟩
      refine steps_cons ?_ ?_
      · rintro b a w' ⟨q2, A3, c3, q5, A6, c6, q8, q9, A10, c10, m2_, m3_, m5_, m6_, m8_, m9_, m10_, m11_, ha, Q_B0, Q_F2, Q_F3, Q_F5, Q_F6, Q_F8, Q_F9, Q_F10, Q_X2_, Q_X3_, Q_X5_, Q_X6_, Q_X8_, Q_X9_, Q_X10_, Q_X11_⟩ hb_ hon hoff
        refine ⟨_, rfl, fun K hK => ?_⟩
        have e54 : a.tmps[54]? = some (m3_) := by rw [ha]; exact putSel_on (e := (3, 54, m3_)) 2 rfl rfl (hon 3 (by kernel_rfl)) rfl
        rw [Q_X3_ (hon 3 (by kernel_rfl))] at e54
        have e57 : a.tmps[57]? = some (m6_) := by rw [ha]; exact putSel_on (e := (6, 57, m6_)) 4 rfl rfl (hon 6 (by kernel_rfl)) rfl
        rw [Q_X6_ (hon 6 (by kernel_rfl))] at e57
        have e59 : a.tmps[59]? = some (m8_) := by rw [ha]; exact putSel_on (e := (8, 59, m8_)) 6 rfl rfl (hon 8 (by kernel_rfl)) rfl
        rw [Q_X8_ (hon 8 (by kernel_rfl))] at e59
        replace ha := Aside0.mk ha
        have B0 := Aside0.mk Q_B0
        have F3 := Aside0.mk (Q_F3 (hon 3 (by kernel_rfl)) hb_)
        have F6 := Aside0.mk (Q_F6 (hon 6 (by kernel_rfl)) hb_)
        have F8 := Aside0.mk (Q_F8 (hon 8 (by kernel_rfl)) hb_)
        have hb : Below w'.heap.size w' (w'.alloc (.cells #[.slice A3 1200 c3, .slice A6 600 c6, .slice (some ⟨q8, 0, none⟩) 1 1] 23)) := (Below.refl _ _).alloc (Nat.le_refl _) _
        refine value_ (w1 := w'.alloc (.cells #[.slice A3 1200 c3, .slice A6 600 c6, .slice (some ⟨q8, 0, none⟩) 1 1] 23)) (v := .slice (some ⟨w'.heap.size, 0, none⟩) 3 3) (by rfl) rfl ?_ ?_
        · go_simp
          try rfl
        refine hK.out _ _ ⟨q2, A3, c3, q5, A6, c6, q8, w'.heap.size, A10, c10, m2_, m3_, m5_, m6_, m8_, (.slice (some ⟨w'.heap.size, 0, none⟩) 3 3), m10_, m11_, (by rw [ha.out]; exact putSel_upk 7 hb_ rfl rfl rfl), (B0.out.trans (hb.mono B0.out.size)), fun _ h1_ => absurd ((hon 3 (by kernel_rfl)).symm.trans h1_) (by decide), fun _ h1_ => absurd ((up_self b 9).symm.trans h1_) (by decide), fun _ h1_ => absurd ((hon 6 (by kernel_rfl)).symm.trans h1_) (by decide), fun _ h1_ => absurd ((up_self b 9).symm.trans h1_) (by decide), fun _ h1_ => absurd ((up_self b 9).symm.trans h1_) (by decide), fun _ _ => lit107 w' A3 c3 A6 c6 q8 F3.out F6.out F8.out, fun h0_ => absurd ((hoff 10 (by kernel_rfl)).symm.trans h0_) (by decide), Q_X2_, Q_X3_, Q_X5_, Q_X6_, Q_X8_, fun _ => rfl, fun h0_ => absurd ((hoff 10 (by kernel_rfl)).symm.trans h0_) (by decide), fun h0_ => absurd ((hoff 11 (by kernel_rfl)).symm.trans h0_) (by decide)⟩
      refine steps_cons ?_ ?_
      · rintro b a w' ⟨q2, A3, c3, q5, A6, c6, q8, q9, A10, c10, m2_, m3_, m5_, m6_, m8_, m9_, m10_, m11_, ha, Q_B0, Q_F2, Q_F3, Q_F5, Q_F6, Q_F8, Q_F9, Q_F10, Q_X2_, Q_X3_, Q_X5_, Q_X6_, Q_X8_, Q_X9_, Q_X10_, Q_X11_⟩ hb_ hon hoff
        refine ⟨_, rfl, fun K hK => ?_⟩
        have e60 : a.tmps[60]? = some (m9_) := by rw [ha]; exact putSel_on (e := (9, 60, m9_)) 7 rfl rfl (hon 9 (by kernel_rfl)) rfl
        rw [Q_X9_ (hon 9 (by kernel_rfl))] at e60
        replace ha := Aside0.mk ha
        have B0 := Aside0.mk Q_B0
        have F9 := Aside0.mk (Q_F9 (hon 9 (by kernel_rfl)) hb_)
        refine goes_ Tryd.func27 (by kernel_rfl) rfl #[.slice (some ⟨q9, 0, none⟩) 3 3] (by rfl) rfl rfl (by first | (simp only [List.map_toArray, List.map_cons, List.map_nil, Act.eval, Array.getD_eq_getD_getElem?, Option.getD_some, e60]; done) | (simp only [List.map_toArray, List.map_cons, List.map_nil, Act.eval, Array.getD_eq_getD_getElem?, Option.getD_some, e60]; rfl)) ?_
        with_reducible refine (concat_call w' (some ⟨q9, 0, none⟩) F9.out).mono ?_
        rintro e w1 ⟨A10', c10', rfl, hr, hb⟩
        refine ⟨_, rfl, ?_⟩
        refine hK.out _ _ ⟨q2, A3, c3, q5, A6, c6, q8, q9, A10', c10', m2_, m3_, m5_, m6_, m8_, m9_, (.slice A10' 1801 c10'), m11_, (by rw [ha.out]; exact putSel_upk 8 hb_ rfl rfl rfl), (B0.out.trans (hb.mono B0.out.size)), fun _ h1_ => absurd ((hon 3 (by kernel_rfl)).symm.trans h1_) (by decide), fun _ h1_ => absurd ((hon 9 (by kernel_rfl)).symm.trans h1_) (by decide), fun _ h1_ => absurd ((hon 6 (by kernel_rfl)).symm.trans h1_) (by decide), fun _ h1_ => absurd ((hon 9 (by kernel_rfl)).symm.trans h1_) (by decide), fun _ h1_ => absurd ((hon 9 (by kernel_rfl)).symm.trans h1_) (by decide), fun _ h1_ => absurd ((up_self b 10).symm.trans h1_) (by decide), fun _ => hr, Q_X2_, Q_X3_, Q_X5_, Q_X6_, Q_X8_, Q_X9_, fun _ => rfl, fun h0_ => absurd ((hoff 11 (by kernel_rfl)).symm.trans h0_) (by decide)⟩
      refine steps_cons ?_ ?_
      · rintro b a w' ⟨q2, A3, c3, q5, A6, c6, q8, q9, A10, c10, m2_, m3_, m5_, m6_, m8_, m9_, m10_, m11_, ha, Q_B0, Q_F2, Q_F3, Q_F5, Q_F6, Q_F8, Q_F9, Q_F10, Q_X2_, Q_X3_, Q_X5_, Q_X6_, Q_X8_, Q_X9_, Q_X10_, Q_X11_⟩ hb_ hon hoff
        refine ⟨_, rfl, fun K hK => ?_⟩
        have e61 : a.tmps[61]? = some (m10_) := by rw [ha]; exact putSel_on (e := (10, 61, m10_)) 8 rfl rfl (hon 10 (by kernel_rfl)) rfl
        rw [Q_X10_ (hon 10 (by kernel_rfl))] at e61
        replace ha := Aside0.mk ha
        have B0 := Aside0.mk Q_B0
        have F10 := Aside0.mk (Q_F10 (hon 10 (by kernel_rfl)))
        refine value_ (w1 := w') (v := .slice A10 1801 c10) (by rfl) rfl ?_ ?_
        · go_simp
          (try simp only [i64_w])
          try rfl
        refine hK.out _ _ ⟨q2, A3, c3, q5, A6, c6, q8, q9, A10, c10, m2_, m3_, m5_, m6_, m8_, m9_, m10_, (.slice A10 1801 c10), (by rw [ha.out]; exact putSel_upk 9 hb_ rfl rfl rfl), Q_B0, fun _ h1_ => absurd ((hon 3 (by kernel_rfl)).symm.trans h1_) (by decide), fun _ h1_ => absurd ((hon 9 (by kernel_rfl)).symm.trans h1_) (by decide), fun _ h1_ => absurd ((hon 6 (by kernel_rfl)).symm.trans h1_) (by decide), fun _ h1_ => absurd ((hon 9 (by kernel_rfl)).symm.trans h1_) (by decide), fun _ h1_ => absurd ((hon 9 (by kernel_rfl)).symm.trans h1_) (by decide), fun _ h1_ => absurd ((hon 10 (by kernel_rfl)).symm.trans h1_) (by decide), Q_F10, Q_X2_, Q_X3_, Q_X5_, Q_X6_, Q_X8_, Q_X9_, Q_X10_, fun _ => rfl⟩
      exact steps_nil
    · rintro b a w' hall ⟨q2, A3, c3, q5, A6, c6, q8, q9, A10, c10, m2_, m3_, m5_, m6_, m8_, m9_, m10_, m11_, ha, Q_B0, Q_F2, Q_F3, Q_F5, Q_F6, Q_F8, Q_F9, Q_F10, Q_X2_, Q_X3_, Q_X5_, Q_X6_, Q_X8_, Q_X9_, Q_X10_, Q_X11_⟩
      have hb1_ := hall 1 (by kernel_rfl)
      have hb2_ := hall 2 (by kernel_rfl)
      have hb3_ := hall 3 (by kernel_rfl)
      have hb5_ := hall 5 (by kernel_rfl)
      have hb6_ := hall 6 (by kernel_rfl)
      have hb7_ := hall 7 (by kernel_rfl)
      have hb8_ := hall 8 (by kernel_rfl)
      have hb9_ := hall 9 (by kernel_rfl)
      have hb10_ := hall 10 (by kernel_rfl)
      have hb11_ := hall 11 (by kernel_rfl)
      subst ha
      obtain rfl := Q_X2_ hb2_
      obtain rfl := Q_X3_ hb3_
      obtain rfl := Q_X5_ hb5_
      obtain rfl := Q_X6_ hb6_
      obtain rfl := Q_X8_ hb8_
      obtain rfl := Q_X9_ hb9_
      obtain rfl := Q_X10_ hb10_
      obtain rfl := Q_X11_ hb11_
      simp only [putSel, hb1_, hb2_, hb3_, hb5_, hb6_, hb7_, hb8_, hb9_, hb10_, hb11_, if_true, Act.put, List.setIfInBounds_toArray, List.set_cons_zero, List.set_cons_succ]
      have B0 := Aside0.mk Q_B0
      clear Q_B0
      clear Q_F2
      clear Q_F3
      clear Q_F5
      clear Q_F6
      clear Q_F8
      clear Q_F9
      have F10 := Aside0.mk (Q_F10 hb10_)
      clear Q_F10
      clear hall hb1_ hb2_ hb3_ hb5_ hb6_ hb7_ hb8_ hb9_ hb10_ hb11_
      have HB8 := Aside0.mk (HBE.out.trans (B0.out.mono HBE.out.size))
      have HB15 := Aside0.mk (blk_below HB14.out B0.out)
      obtain ⟨ad, had, _⟩ := F10.out.1.2.2 (by decide)
      subst had
      have HP7 := Aside0.mk (parse_call deepL 1801 deep_len 0 0 1801 0 pdeep w' (some ad) c10 F10.out.1 F10.out.2 (HG.out.below HB8.out))
      have hc10 : 1801 ≤ c10 := F10.out.2
      clear CE0 CE1 CE2 CS0 CS1 CS2 HGE HBE HB14 hHeld B0
      go_upto_region 8 with (first
        | (go_at_call 10; (with_reducible refine HP7.out.mono ?_); rintro e w7 ⟨A13, c13, rfl, hb7⟩; have HB7 := Aside0.mk hb7; clear hb7))
      obtain ⟨w8, hw8⟩ : ∃ w, w7.alloc (.cells #[.slice A13 0 c13, .int .i64 0] 27) = w := ⟨_, rfl⟩
      obtain ⟨b13, hb13⟩ : ∃ b, w7.heap.size = b := ⟨_, rfl⟩
      rw [hw8, hb13]
      have HB78 := Aside0.mk (show Below w'.heap.size w' w8 from hw8 ▸ HB7.out.alloc HB7.out.size _)
      have HX13 := Aside0.mk (show w8.heap[b13]? = some (.cells #[.slice A13 0 c13, .int .i64 0] 27 (0, 0)) from by rw [← hb13, ← hw8]; exact blk_new w7 _)
      have HB9 := Aside0.mk (HB8.out.trans (HB78.out.mono HB8.out.size))
      have HP8 := Aside0.mk (parse_call (deepL.drop 1) 1800 (by rw [List.length_drop, deep_len]) 0 0 0 16 pdeep1 w8 (some ⟨ad.block, ad.off + 3, none⟩) (c10 - 1) (by
        have h := Kd.C_drop (m := 1) (c := c10) (show Kd.C k46 w8 (some ad) deepL.length deepL by rw [deep_len]; exact Kd.C_below F10.out.1 HB78.out) (by rw [deep_len]; decide) (by rw [deep_len]; exact hc10)
        rw [if_neg (by omega), List.length_drop, deep_len] at h
        rw [show (⟨ad.block, ad.off + 3, none⟩ : Addr) = ad.add 3 from (Addr.add_succ' ad 2).symm]
        exact h) (by omega) (HG.out.below HB9.out))
      clear hw8 hb13 HP7 HB7 HB8
      go_upto_region 9 with (first
        | (go_at_call 10; (with_reducible refine HP8.out.mono ?_); rintro e w9 ⟨A14, c14, rfl, hb9⟩; have HB10 := Aside0.mk hb9; clear hb9))
      obtain ⟨wf, hwf⟩ : ∃ w, w9.alloc (.cells #[.slice A14 0 c14, .int .i64 0] 27) = w := ⟨_, rfl⟩
      rw [hwf]
      have HB11 := Aside0.mk (show Below w8.heap.size w8 wf from hwf ▸ HB10.out.alloc HB10.out.size _)
      have z13 : wf.cell? ⟨b13, 0, none⟩ = some (.slice A13 0 c13) := (blk_cell (blk_below HX13.out HB11.out) 0).trans rfl
      have z14 : wf.cell? ⟨gb, 0, none⟩ = some (.slice A8 nb c8) := (blk_cell (blk_below (blk_below HB15.out HB78.out) HB11.out) 0).trans rfl
      have HBF := Aside0.mk (HB9.out.trans (HB11.out.mono HB9.out.size))
      clear hwf HP8 HB10 HX13 HB15 HB78 HB11 HB9 F10
      rcases HFIN.out with ⟨f0, f1, f2, f3, f4, f5, f6⟩ | ⟨f0, f1, f2, f3, f4, f5, f6⟩
      · subst f1 f2 f3 f4 f5 f6
        have k0 : decide (0 < kk) = true := decide_eq_true f0
        go_wp2_with (first
          | (go_at_call 15; (with_reducible refine (works_calls _ (HG.out.below HBF.out)).mono ?_); rintro e wg ⟨rfl, hbg⟩; have HBG := Aside0.mk hbg; clear hbg))
        go_ret
        exact ⟨rfl, HBF.out.trans (HBG.out.mono HBF.out.size)⟩
      · subst f3 f6
        have k0 : decide (0 < kk) = false := decide_eq_false (by omega)
        have e1 : ((nb : Int) == 300 + kk) = true := beq_iff_eq.2 f1
        have e2 : (r3 == 300 + kk + 1) = true := beq_iff_eq.2 f2
        have e3 : ((mb : Int) == 24 + kk) = true := beq_iff_eq.2 f4
        have e4 : (u3 == 4 * (24 + kk)) = true := beq_iff_eq.2 f5
        clear f1 f2 f4 f5
        go_wp2_with (first
          | (go_at_call 15; (with_reducible refine (works_calls _ (HG.out.below HBF.out)).mono ?_); rintro e wg ⟨rfl, hbg⟩; have HBG := Aside0.mk hbg; clear hbg))
        go_ret
        exact ⟨rfl, HBF.out.trans (HBG.out.mono HBF.out.size)⟩
theorem Long_calls (W : World) (a : Int) (h0 : 0 ≤ a) (h255 : a ≤ 255) (hg : Laid W) : Calls Tryd.prog 6 #[.int .u8 a] W fun e w' => e = .returned (.bool true) ∧ Below W.heap.size W w' := by
  have hc : a % 4 = 0 ∨ a % 4 = 1 ∨ a % 4 = 2 ∨ a % 4 = 3 := by omega
  have hl : ∀ n : Nat, (rep n [tE4] ++ [tSt]).length = n + 1 := fun n => by rw [List.length_append, rep_len]; simp
  rcases hc with hc | hc | hc | hc
  · exact long_any W a (-2) 298 299 298 22 88 22 0 299 0 88 0 h0 h255 (by omega) (by decide) (by decide) (by rw [IntWalk.wrap64_in _ (by omega)]; rfl) (hl 298) p298 hg (by decide) (by decide) (by decide) (by decide) (by decide) t22 (by decide)
  · exact long_any W a (-1) 299 300 299 23 92 23 0 300 0 92 0 h0 h255 (by omega) (by decide) (by decide) (by rw [IntWalk.wrap64_in _ (by omega)]; rfl) (hl 299) p299 hg (by decide) (by decide) (by decide) (by decide) (by decide) t23 (by decide)
  · exact long_any W a 0 300 301 300 24 96 24 0 301 0 96 0 h0 h255 (by omega) (by decide) (by decide) (by rw [IntWalk.wrap64_in _ (by omega)]; rfl) (hl 300) p300 hg (by decide) (by decide) (by decide) (by decide) (by decide) t24 (by decide)
  · exact long_any W a 1 301 302 0 25 100 0 0 0 18 0 18 h0 h255 (by omega) (by decide) (by decide) (by rw [IntWalk.wrap64_in _ (by omega)]; rfl) (hl 301) p301 hg (by decide) (by decide) (by decide) (by decide) (by decide) t25 (by decide)
end Go.Proofs.YtlpoglkddknedaaDoor.L

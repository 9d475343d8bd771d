/- MovetextPasses: Noise.tokens walked, at the numbers; and at whatever kind. Conditions: the variables hold what their initialisers lay. -/
import Derived.Test.YtlpoglkddknedaaDoorHh
namespace Go.Proofs.YtlpoglkddknedaaDoor.Z
open Go.RowKit Go.Proofs.YtlpoglkddknedaaDoor.T Go.Proofs.YtlpoglkddknedaaDoor.H Go.Proofs.YtlpoglkddknedaaDoorW.PrintWords Go.Proofs.YtlpoglkddknedaaDoorW.PrintLast Go.Proofs.YtlpoglkddknedaaDoorW.PrintMore
set_option linter.unusedVariables false
set_option linter.unusedSimpArgs false
def tkT10 : Bool × List (List Nat × List Nat) := (true, [([], []), ([], []), ([1], [1]), ([2], [2]), ([3], [3]), ([0, 4, 4], [0, 4]), ([5], [5]), ([], []), ([7], [7]), ([], []), ([9], [9]), ([10], [10]), ([11], [11]), ([8, 12, 5], [8, 12]), ([6, 13, 13], [6, 13]), ([14, 14, 0, 1, 2, 3, 4, 5, 6, 7, 8, 9, 10, 11, 12, 13, 14], [14])])
def tkB10 : List Nat := [0, 0, 2, 6, 14, 31, 63, 0, 128, 0, 512, 1536, 3584, 8127, 16383, 32767]
theorem tktab10 : rtab .any (opsOf Tryd.f30 10) = tkT10 := by kernel_rfl
theorem tkbits10 : waitsOk tkT10.2 tkB10 = true := by kernel_rfl

theorem rep_dots (m : Nat) : rep m [dot1] = List.replicate m dot1 := by
  induction m with
  | zero => rfl
  | succ m ih => rw [rep_succ, ih, List.replicate_succ]; rfl
theorem repd_call (m : Nat) (hm : m ≤ 3) (x : Int) (hx : x = (m : Int)) (w : World) (q : Nat) (hC : Kd.C k46 w (some ⟨q, 0, none⟩) 1 [dot1]) :
    Calls Tryd.prog 26 #[.slice (some ⟨q, 0, none⟩) 1 1, .int .i64 x] w fun e w' => ∃ (A : Option Addr) (c : Nat), e = .returned (.slice A m c) ∧ Kd.C k46 w' A m (rep m [dot1]) ∧ Below w.heap.size w w' := by
  subst hx
  by_cases h0 : m = 0
  · subst h0
    refine (Repeat0_call ⟨q, 0, none⟩ 1 w).mono ?_
    rintro e w' ⟨v, rfl, hr, hb⟩
    obtain ⟨A, c, rfl⟩ := Kd.R_slice hr
    exact ⟨A, c, rfl, (Kd.R_reads' hr).2.2, hb⟩
  · refine (Repeat_calls (some ⟨q, 0, none⟩) 1 [dot1] m w hC (Nat.le_refl _) (by decide) (by omega) (by show m * 1 ≤ _; omega) (by omega) (by decide)).mono ?_
    rintro e w' ⟨v, rfl, hr, hb⟩
    obtain ⟨A, c, e⟩ := Kd.R_slice hr
    have hl : (rep m [dot1]).length = m := by rw [rep_len]; simp
    rw [hl] at e
    subst e
    have h := (Kd.R_reads' hr).2.2
    rw [hl] at h
    exact ⟨A, c, rfl, h, hb⟩
set_option maxHeartbeats 4000000 in
set_option maxRecDepth 100000 in
theorem tok3 (k d : Int) (hk : 0 ≤ k ∧ k ≤ 255) (hd : 0 ≤ d ∧ d ≤ 255) (c : k % 6 = 3) (W : World) (hg : Laid W) : TokAt k d W := by
  unfold TokAt nz
  rw [if_neg (by omega), if_neg (by omega), if_neg (by omega), if_pos c]
  have hk0 := hk.1
  have hk1 := hk.2
  obtain ⟨m, hm⟩ : ∃ m : Nat, (d % 4).toNat = m := ⟨_, rfl⟩
  have hm3 : m ≤ 3 := by omega
  have HRP := Aside0.mk (fun w q hC => repd_call m hm3 (wrap64 (d.tmod 4)) (by rw [IntWalk.wrap64_in _ (by have := Int.tmod_eq_emod_of_nonneg (b := 4) hd.1; omega)]; have := Int.tmod_eq_emod_of_nonneg (b := 4) hd.1; omega) w q hC : ∀ (w : World) (q : Nat), Kd.C k46 w (some ⟨q, 0, none⟩) 1 [dot1] → Calls Tryd.prog 26 #[.slice (some ⟨q, 0, none⟩) 1 1, .int .i64 (wrap64 (d.tmod 4))] w fun e w' => ∃ (A : Option Addr) (c : Nat), e = .returned (.slice A m c) ∧ Kd.C k46 w' A m (rep m [dot1]) ∧ Below w.heap.size w w')
  obtain ⟨s0, hs0⟩ : ∃ s, itoaS d = s := ⟨_, rfl⟩
  have HI0 := Aside0.mk (fun w hb => hs0 ▸ itoa_any d hd.1 (by omega) w (hg.below hb) : ∀ w, Below W.heap.size W w → Calls Tryd.prog 14 #[.int .i64 d] w fun e w' => e = .returned (.string s0) ∧ Below w.heap.size w w')
  have hwd : wrap64 d = d := IntWalk.wrap64_in _ (by omega)
  rw [hm, ← rep_dots, hs0]
  have q0 : (k % 6 == 0) = false := beq_eq_false_iff_ne.2 (by omega)
  have q1 : (k % 6 == 1) = false := beq_eq_false_iff_ne.2 (by omega)
  have q2 : (k % 6 == 2) = false := beq_eq_false_iff_ne.2 (by omega)
  have q3 : (k % 6 == 3) = true := beq_iff_eq.2 c
  have HWD := Aside0.mk hwd
  clear c hm hg hs0 hwd hd
  go_enter Tryd.func30, Tryd.ntmps30
  go_upto_region 10 with (fail)
  obtain ⟨w4, hw4⟩ : ∃ w, W.alloc (.cells #[.int .u8 k, .int .u8 d] 68) = w := ⟨_, rfl⟩
  obtain ⟨b1, hb1⟩ : ∃ b, W.heap.size = b := ⟨_, rfl⟩
  have hbe : w4.heap[b1]? = some (.cells #[.int .u8 k, .int .u8 d] 68 (0, 0)) := by rw [← hw4, ← hb1]; exact blk_new W _
  have HBD := Aside0.mk (below_drew1 (show Below W.heap.size W w4 from hw4 ▸ (Below.refl _ _).alloc (Nat.le_refl _) _))
  have CB := Aside0.mk (show w4.drew.cell? ⟨b1, 1, none⟩ = some (.int .u8 d) from (blk_cell (blk_drew hbe) 1).trans rfl)
  have HIT := Aside0.mk (show ∀ w, Below w4.drew.heap.size w4.drew w → Calls Tryd.prog 14 #[.int .i64 (wrap64 d)] w fun e w' => e = .returned (.string s0) ∧ Below w.heap.size w w' from fun w hb => by rw [HWD.out]; exact HI0.out w (HBD.out.trans (hb.mono HBD.out.size)))
  rw [hw4, hb1]
  clear hw4 hb1 hbe HI0 HWD
  refine start_ (n := 16) (S := fun w' => True) (ds := []) #[false, false, false, false, false, false, false, false, false, false, false, false, false, false, false, false] (by kernel_rfl) rfl rfl trivial (fun hHeld => ?_); refine with_tabW tktab10 tkbits10 (fun HT_ HW_ => ?_)
  generalize w4.drew = wd at HBD CB HIT hHeld ⊢
  refine pure_ (i := 0) (N := some 23) (v := ?_) (a' := ?_) #[true, false, false, false, false, false, false, false, false, false, false, false, false, false, false, false] rfl rfl (any_of HT_.out (by kernel_rfl)) (fun _ _ _ h => h) (Or.inl ⟨by rfl, ?_⟩) ?_ ?_
  rotate_left
  · intro w'
    go_simp
    with_reducible rfl
  rotate_left
  · simp only [Act.put, List.setIfInBounds_toArray, List.set_cons_zero, List.set_cons_succ, i64_w, i32_w]
    rfl
  refine pure_ (i := 1) (N := some 24) (v := ?_) (a' := ?_) #[true, true, false, false, false, false, false, false, false, false, false, false, false, false, false, false] rfl rfl (any_of HT_.out (by kernel_rfl)) (fun _ _ _ h => h) (Or.inl ⟨by rfl, ?_⟩) ?_ ?_
  rotate_left
  · intro w'
    go_simp
    with_reducible rfl
  rotate_left
  · simp only [Act.put, List.setIfInBounds_toArray, List.set_cons_zero, List.set_cons_succ, i64_w, i32_w]
    rfl
  refine pure_ (i := 7) (N := some 30) (v := ?_) (a' := ?_) #[true, true, false, false, false, false, false, true, false, false, false, false, false, false, false, false] rfl rfl (any_of HT_.out (by kernel_rfl)) (fun _ _ _ h => h) (Or.inl ⟨by rfl, ?_⟩) ?_ ?_
  rotate_left
  · intro w'
    go_simp
    with_reducible rfl
  rotate_left
  · simp only [Act.put, List.setIfInBounds_toArray, List.set_cons_zero, List.set_cons_succ, i64_w, i32_w]
    rfl
  refine pure_ (i := 9) (N := some 32) (v := ?_) (a' := ?_) #[true, true, false, false, false, false, false, true, false, true, false, false, false, false, false, false] rfl rfl (any_of HT_.out (by kernel_rfl)) (fun _ _ _ h => h) (Or.inl ⟨by rfl, ?_⟩) ?_ ?_
  rotate_left
  · intro w'
    go_simp
    with_reducible rfl
  rotate_left
  · simp only [Act.put, List.setIfInBounds_toArray, List.set_cons_zero, List.set_cons_succ, i64_w, i32_w]
    rfl
  refine inv_at [2, 3, 4, 5, 6, 8, 10, 11, 12, 13, 14, 15] (fun a0_ b a w' => ∃ (q6 : Nat) (q8 : Nat) (A13 : Option Addr) (c13 : Nat) (v14 : Value) (m6_ : Value) (m8_ : Value) (m13_ : Value) (m15_ : Value), a = putSel a0_ b [(2, 25, .int .u8 d), (3, 26, .int .i64 (wrap64 d)), (4, 27, .string s0), (5, 28, .agg #[.int .i64 2, .string s0, .int .i64 0]), (6, 29, m6_), (8, 31, m8_), (10, 33, .int .u8 d), (11, 34, .int .u8 (d.tmod 4)), (12, 35, .int .i64 (wrap64 (d.tmod 4))), (13, 36, m13_), (14, 37, v14), (15, 2, m15_)] ∧ (Below wd.heap.size wd w') ∧ (b 6 = true → b 14 = false → Kd.R k46 46 w' wd.heap.size (fun _ => True) (.slice (some ⟨q6, 0, none⟩) 1 1) [(⟨2, s0, 0⟩ : S46)]) ∧ (b 8 = true → b 13 = false → Kd.C k46 w' (some ⟨q8, 0, none⟩) 1 [dot1]) ∧ (b 13 = true → b 14 = false → Kd.C k46 w' A13 m (rep m [dot1])) ∧ (b 14 = true → Kd.R k46 46 w' wd.heap.size (fun _ => True) v14 ([(⟨2, s0, 0⟩ : S46)] ++ rep m [dot1])) ∧ (b 6 = true → (m6_ : Value) = .slice (some ⟨q6, 0, none⟩) 1 1) ∧ (b 8 = true → (m8_ : Value) = .slice (some ⟨q8, 0, none⟩) 1 1) ∧ (b 13 = true → (m13_ : Value) = .slice A13 m c13) ∧ (b 15 = true → (m15_ : Value) = v14)) HT_.out HW_.out (by kernel_rfl) (by kernel_rfl) ?_ ?_ ?_
  · exact ⟨0, 0, none, 0, .bool false, .bool false, .bool false, .bool false, .bool false, by simp only [putSel, Bool.false_eq_true, if_false], Below.refl _ _, fun h_ => absurd h_ (by decide), fun h_ => absurd h_ (by decide), fun h_ => absurd h_ (by decide), fun h_ => absurd h_ (by decide), fun h_ => absurd h_ (by decide), fun h_ => absurd h_ (by decide), fun h_ => absurd h_ (by decide), fun h_ => absurd h_ (by decide)⟩
  · skip
    refine steps_cons ?_ ?_
    · rintro b a w' ⟨q6, q8, A13, c13, v14, m6_, m8_, m13_, m15_, ha, Q_B0, Q_F6, Q_F8, Q_F13, Q_F14, Q_X6_, Q_X8_, Q_X13_, Q_X15_⟩ hb_ hon hoff
      refine ⟨_, rfl, fun K hK => ?_⟩
      have e24 : a.tmps[24]? = some (.pointer (some ⟨b1, 1, none⟩)) := by rw [ha]; exact (putSel_off rfl).trans rfl
      replace ha := Aside0.mk ha
      have B0 := Aside0.mk Q_B0
      have x2 : w'.cell? ⟨b1, 1, none⟩ = some (.int .u8 d) := (B0.out.cell (World.block_lt_of_cell? _ _ CB.out)).trans CB.out
      refine value_ (w1 := w') (v := .int .u8 d) (by rfl) rfl ?_ ?_
      · go_simp
        (try simp only [i64_w])
        try rfl
      refine hK.out _ _ ⟨q6, q8, A13, c13, v14, m6_, m8_, m13_, m15_, (by rw [ha.out]; exact putSel_upk 0 hb_ rfl rfl rfl), Q_B0, fun h0_ _ => absurd ((hoff 6 (by kernel_rfl)).symm.trans h0_) (by decide), Q_F8, fun h0_ _ => absurd ((hoff 13 (by kernel_rfl)).symm.trans h0_) (by decide), fun h0_ => absurd ((hoff 14 (by kernel_rfl)).symm.trans h0_) (by decide), fun h0_ => absurd ((hoff 6 (by kernel_rfl)).symm.trans h0_) (by decide), Q_X8_, fun h0_ => absurd ((hoff 13 (by kernel_rfl)).symm.trans h0_) (by decide), fun h0_ => absurd ((hoff 15 (by kernel_rfl)).symm.trans h0_) (by decide)⟩
    refine steps_cons ?_ ?_
    · rintro b a w' ⟨q6, q8, A13, c13, v14, m6_, m8_, m13_, m15_, ha, Q_B0, Q_F6, Q_F8, Q_F13, Q_F14, Q_X6_, Q_X8_, Q_X13_, Q_X15_⟩ hb_ hon hoff
      refine ⟨_, rfl, fun K hK => ?_⟩
      have e25 : a.tmps[25]? = some (.int .u8 d) := by rw [ha]; exact putSel_on (e := (2, 25, .int .u8 d)) 0 rfl rfl (hon 2 (by kernel_rfl)) rfl
      replace ha := Aside0.mk ha
      have B0 := Aside0.mk Q_B0
      refine value_ (w1 := w') (v := .int .i64 (wrap64 d)) (by rfl) rfl ?_ ?_
      · go_simp
        (try simp only [i64_w])
        try rfl
      refine hK.out _ _ ⟨q6, q8, A13, c13, v14, m6_, m8_, m13_, m15_, (by rw [ha.out]; exact putSel_upk 1 hb_ rfl rfl rfl), Q_B0, fun h0_ _ => absurd ((hoff 6 (by kernel_rfl)).symm.trans h0_) (by decide), Q_F8, fun h0_ _ => absurd ((hoff 13 (by kernel_rfl)).symm.trans h0_) (by decide), fun h0_ => absurd ((hoff 14 (by kernel_rfl)).symm.trans h0_) (by decide), fun h0_ => absurd ((hoff 6 (by kernel_rfl)).symm.trans h0_) (by decide), Q_X8_, fun h0_ => absurd ((hoff 13 (by kernel_rfl)).symm.trans h0_) (by decide), fun h0_ => absurd ((hoff 15 (by kernel_rfl)).symm.trans h0_) (by decide)⟩
    refine steps_cons ?_ ?_
    · rintro b a w' ⟨q6, q8, A13, c13, v14, m6_, m8_, m13_, m15_, ha, Q_B0, Q_F6, Q_F8, Q_F13, Q_F14, Q_X6_, Q_X8_, Q_X13_, Q_X15_⟩ hb_ hon hoff
      refine ⟨_, rfl, fun K hK => ?_⟩
      have e26 : a.tmps[26]? = some (.int .i64 (wrap64 d)) := by rw [ha]; exact putSel_on (e := (3, 26, .int .i64 (wrap64 d))) 1 rfl rfl (hon 3 (by kernel_rfl)) rfl
      replace ha := Aside0.mk ha
      have B0 := Aside0.mk Q_B0
      refine goes_ Tryd.func14 (by kernel_rfl) rfl #[.int .i64 (wrap64 d)] (by rfl) rfl rfl (by first | (simp only [List.map_toArray, List.map_cons, List.map_nil, Act.eval, Array.getD_eq_getD_getElem?, Option.getD_some, e26]; done) | (simp only [List.map_toArray, List.map_cons, List.map_nil, Act.eval, Array.getD_eq_getD_getElem?, Option.getD_some, e26]; rfl)) ?_
      with_reducible refine (HIT.out w' B0.out).mono ?_
      rintro e w1 ⟨rfl, hb⟩
      refine ⟨_, rfl, ?_⟩
      refine hK.out _ _ ⟨q6, q8, A13, c13, v14, m6_, m8_, m13_, m15_, (by rw [ha.out]; exact putSel_upk 2 hb_ rfl rfl rfl), (B0.out.trans (hb.mono B0.out.size)), fun h0_ _ => absurd ((hoff 6 (by kernel_rfl)).symm.trans h0_) (by decide), fun h0_ h1_ => Kd.C_below (Q_F8 h0_ h1_) hb, fun h0_ _ => absurd ((hoff 13 (by kernel_rfl)).symm.trans h0_) (by decide), fun h0_ => absurd ((hoff 14 (by kernel_rfl)).symm.trans h0_) (by decide), fun h0_ => absurd ((hoff 6 (by kernel_rfl)).symm.trans h0_) (by decide), Q_X8_, fun h0_ => absurd ((hoff 13 (by kernel_rfl)).symm.trans h0_) (by decide), fun h0_ => absurd ((hoff 15 (by kernel_rfl)).symm.trans h0_) (by decide)⟩
    refine steps_cons ?_ ?_
    · rintro b a w' ⟨q6, q8, A13, c13, v14, m6_, m8_, m13_, m15_, ha, Q_B0, Q_F6, Q_F8, Q_F13, Q_F14, Q_X6_, Q_X8_, Q_X13_, Q_X15_⟩ hb_ hon hoff
      refine ⟨_, rfl, fun K hK => ?_⟩
      have e23 : a.tmps[23]? = some (.func (.func 56) #[] #[]) := by rw [ha]; exact (putSel_off rfl).trans rfl
      have e27 : a.tmps[27]? = some (.string s0) := by rw [ha]; exact putSel_on (e := (4, 27, .string s0)) 2 rfl rfl (hon 4 (by kernel_rfl)) rfl
      replace ha := Aside0.mk ha
      have B0 := Aside0.mk Q_B0
      refine call_ 56 #[.string s0] (by rfl) rfl (by have he := enters_ (P := Tryd.prog) (f := 56) Tryd.func56 (by kernel_rfl) rfl #[.string s0] w'; unfold execOp; simp [resolve, Deferred.ofValue, invoke, Act.eval, Array.getD_eq_getD_getElem?, e23, e27, he]) ?_
      with_reducible refine (sym_call s0 w').mono ?_
      rintro e w1 ⟨rfl, hb⟩
      refine ⟨_, rfl, ?_⟩
      refine hK.out _ _ ⟨q6, q8, A13, c13, v14, m6_, m8_, m13_, m15_, (by rw [ha.out]; exact putSel_upk 3 hb_ rfl rfl rfl), (B0.out.trans (hb.mono B0.out.size)), fun h0_ _ => absurd ((hoff 6 (by kernel_rfl)).symm.trans h0_) (by decide), fun h0_ h1_ => Kd.C_below (Q_F8 h0_ h1_) hb, fun h0_ _ => absurd ((hoff 13 (by kernel_rfl)).symm.trans h0_) (by decide), fun h0_ => absurd ((hoff 14 (by kernel_rfl)).symm.trans h0_) (by decide), fun h0_ => absurd ((hoff 6 (by kernel_rfl)).symm.trans h0_) (by decide), Q_X8_, fun h0_ => absurd ((hoff 13 (by kernel_rfl)).symm.trans h0_) (by decide), fun h0_ => absurd ((hoff 15 (by kernel_rfl)).symm.trans h0_) (by decide)⟩
    refine steps_cons ?_ ?_
    · rintro b a w' ⟨q6, q8, A13, c13, v14, m6_, m8_, m13_, m15_, ha, Q_B0, Q_F6, Q_F8, Q_F13, Q_F14, Q_X6_, Q_X8_, Q_X13_, Q_X15_⟩ hb_ hon hoff
      refine ⟨_, rfl, fun K hK => ?_⟩
      have e28 : a.tmps[28]? = some (.agg #[.int .i64 2, .string s0, .int .i64 0]) := by rw [ha]; exact putSel_on (e := (5, 28, .agg #[.int .i64 2, .string s0, .int .i64 0])) 3 rfl rfl (hon 5 (by kernel_rfl)) rfl
      replace ha := Aside0.mk ha
      have B0 := Aside0.mk Q_B0
      have hb : Below w'.heap.size w' (w'.alloc (.cells #[.int .i64 2, .string s0, .int .i64 0] 46)) := (Below.refl _ _).alloc (Nat.le_refl _) _
      refine value_ (w1 := w'.alloc (.cells #[.int .i64 2, .string s0, .int .i64 0] 46)) (v := .slice (some ⟨w'.heap.size, 0, none⟩) 1 1) (by rfl) rfl ?_ ?_
      · go_simp
        try rfl
      refine hK.out _ _ ⟨w'.heap.size, q8, A13, c13, v14, (.slice (some ⟨w'.heap.size, 0, none⟩) 1 1), m8_, m13_, m15_, (by rw [ha.out]; exact putSel_upk 4 hb_ rfl rfl rfl), (B0.out.trans (hb.mono B0.out.size)), fun _ _ => litR w' wd.heap.size [(⟨2, s0, 0⟩ : S46)] 1 rfl (by decide) B0.out.size _ rfl, fun h0_ h1_ => Kd.C_below (Q_F8 h0_ h1_) hb, fun h0_ h1_ => Kd.C_below (Q_F13 h0_ h1_) hb, fun h0_ => absurd ((hoff 14 (by kernel_rfl)).symm.trans h0_) (by decide), fun _ => rfl, Q_X8_, Q_X13_, fun h0_ => absurd ((hoff 15 (by kernel_rfl)).symm.trans h0_) (by decide)⟩
    refine steps_cons ?_ ?_
    · rintro b a w' ⟨q6, q8, A13, c13, v14, m6_, m8_, m13_, m15_, ha, Q_B0, Q_F6, Q_F8, Q_F13, Q_F14, Q_X6_, Q_X8_, Q_X13_, Q_X15_⟩ hb_ hon hoff
      refine ⟨_, rfl, fun K hK => ?_⟩
      have e30 : a.tmps[30]? = some (.agg #[.int .i64 3, .string (⟨#[46]⟩ : ByteArray), .int .i64 0]) := by rw [ha]; exact (putSel_off rfl).trans rfl
      replace ha := Aside0.mk ha
      have B0 := Aside0.mk Q_B0
      have hb : Below w'.heap.size w' (w'.alloc (.cells #[.int .i64 3, .string (⟨#[46]⟩ : ByteArray), .int .i64 0] 46)) := (Below.refl _ _).alloc (Nat.le_refl _) _
      refine value_ (w1 := w'.alloc (.cells #[.int .i64 3, .string (⟨#[46]⟩ : ByteArray), .int .i64 0] 46)) (v := .slice (some ⟨w'.heap.size, 0, none⟩) 1 1) (by rfl) rfl ?_ ?_
      · go_simp
        try rfl
      refine hK.out _ _ ⟨q6, w'.heap.size, A13, c13, v14, m6_, (.slice (some ⟨w'.heap.size, 0, none⟩) 1 1), m13_, m15_, (by rw [ha.out]; exact putSel_upk 5 hb_ rfl rfl rfl), (B0.out.trans (hb.mono B0.out.size)), fun h0_ h1_ => Kd.R_below (Q_F6 h0_ h1_) hb, fun _ _ => (Kd.R_reads' (litR w' wd.heap.size [dot1] 1 rfl (by decide) B0.out.size _ rfl)).2.2, fun h0_ _ => absurd ((hoff 13 (by kernel_rfl)).symm.trans h0_) (by decide), fun h0_ => absurd ((hoff 14 (by kernel_rfl)).symm.trans h0_) (by decide), Q_X6_, fun _ => rfl, fun h0_ => absurd ((hoff 13 (by kernel_rfl)).symm.trans h0_) (by decide), fun h0_ => absurd ((hoff 15 (by kernel_rfl)).symm.trans h0_) (by decide)⟩
    refine steps_cons ?_ ?_
    · rintro b a w' ⟨q6, q8, A13, c13, v14, m6_, m8_, m13_, m15_, ha, Q_B0, Q_F6, Q_F8, Q_F13, Q_F14, Q_X6_, Q_X8_, Q_X13_, Q_X15_⟩ hb_ hon hoff
      refine ⟨_, rfl, fun K hK => ?_⟩
      have e32 : a.tmps[32]? = some (.pointer (some ⟨b1, 1, none⟩)) := by rw [ha]; exact (putSel_off rfl).trans rfl
      replace ha := Aside0.mk ha
      have B0 := Aside0.mk Q_B0
      have x10 : w'.cell? ⟨b1, 1, none⟩ = some (.int .u8 d) := (B0.out.cell (World.block_lt_of_cell? _ _ CB.out)).trans CB.out
      refine value_ (w1 := w') (v := .int .u8 d) (by rfl) rfl ?_ ?_
      · go_simp
        (try simp only [i64_w])
        try rfl
      refine hK.out _ _ ⟨q6, q8, A13, c13, v14, m6_, m8_, m13_, m15_, (by rw [ha.out]; exact putSel_upk 6 hb_ rfl rfl rfl), Q_B0, Q_F6, Q_F8, fun h0_ _ => absurd ((hoff 13 (by kernel_rfl)).symm.trans h0_) (by decide), fun h0_ => absurd ((hoff 14 (by kernel_rfl)).symm.trans h0_) (by decide), Q_X6_, Q_X8_, fun h0_ => absurd ((hoff 13 (by kernel_rfl)).symm.trans h0_) (by decide), fun h0_ => absurd ((hoff 15 (by kernel_rfl)).symm.trans h0_) (by decide)⟩
    refine steps_cons ?_ ?_
    · rintro b a w' ⟨q6, q8, A13, c13, v14, m6_, m8_, m13_, m15_, ha, Q_B0, Q_F6, Q_F8, Q_F13, Q_F14, Q_X6_, Q_X8_, Q_X13_, Q_X15_⟩ hb_ hon hoff
      refine ⟨_, rfl, fun K hK => ?_⟩
      have e33 : a.tmps[33]? = some (.int .u8 d) := by rw [ha]; exact putSel_on (e := (10, 33, .int .u8 d)) 6 rfl rfl (hon 10 (by kernel_rfl)) rfl
      replace ha := Aside0.mk ha
      have B0 := Aside0.mk Q_B0
      refine value_ (w1 := w') (v := .int .u8 (d.tmod 4)) (by rfl) rfl ?_ ?_
      · go_simp
        (try simp only [i64_w])
        try rfl
      refine hK.out _ _ ⟨q6, q8, A13, c13, v14, m6_, m8_, m13_, m15_, (by rw [ha.out]; exact putSel_upk 7 hb_ rfl rfl rfl), Q_B0, Q_F6, Q_F8, fun h0_ _ => absurd ((hoff 13 (by kernel_rfl)).symm.trans h0_) (by decide), fun h0_ => absurd ((hoff 14 (by kernel_rfl)).symm.trans h0_) (by decide), Q_X6_, Q_X8_, fun h0_ => absurd ((hoff 13 (by kernel_rfl)).symm.trans h0_) (by decide), fun h0_ => absurd ((hoff 15 (by kernel_rfl)).symm.trans h0_) (by decide)⟩
    refine steps_cons ?_ ?_
    · rintro b a w' ⟨q6, q8, A13, c13, v14, m6_, m8_, m13_, m15_, ha, Q_B0, Q_F6, Q_F8, Q_F13, Q_F14, Q_X6_, Q_X8_, Q_X13_, Q_X15_⟩ hb_ hon hoff
      refine ⟨_, rfl, fun K hK => ?_⟩
      have e34 : a.tmps[34]? = some (.int .u8 (d.tmod 4)) := by rw [ha]; exact putSel_on (e := (11, 34, .int .u8 (d.tmod 4))) 7 rfl rfl (hon 11 (by kernel_rfl)) rfl
      replace ha := Aside0.mk ha
      have B0 := Aside0.mk Q_B0
      refine value_ (w1 := w') (v := .int .i64 (wrap64 (d.tmod 4))) (by rfl) rfl ?_ ?_
      · go_simp
        (try simp only [i64_w])
        try rfl
      refine hK.out _ _ ⟨q6, q8, A13, c13, v14, m6_, m8_, m13_, m15_, (by rw [ha.out]; exact putSel_upk 8 hb_ rfl rfl rfl), Q_B0, Q_F6, Q_F8, fun h0_ _ => absurd ((hoff 13 (by kernel_rfl)).symm.trans h0_) (by decide), fun h0_ => absurd ((hoff 14 (by kernel_rfl)).symm.trans h0_) (by decide), Q_X6_, Q_X8_, fun h0_ => absurd ((hoff 13 (by kernel_rfl)).symm.trans h0_) (by decide), fun h0_ => absurd ((hoff 15 (by kernel_rfl)).symm.trans h0_) (by decide)⟩
    refine steps_cons ?_ ?_
    · rintro b a w' ⟨q6, q8, A13, c13, v14, m6_, m8_, m13_, m15_, ha, Q_B0, Q_F6, Q_F8, Q_F13, Q_F14, Q_X6_, Q_X8_, Q_X13_, Q_X15_⟩ hb_ hon hoff
      refine ⟨_, rfl, fun K hK => ?_⟩
      have e31 : a.tmps[31]? = some (m8_) := by rw [ha]; exact putSel_on (e := (8, 31, m8_)) 5 rfl rfl (hon 8 (by kernel_rfl)) rfl
      rw [Q_X8_ (hon 8 (by kernel_rfl))] at e31
      have e35 : a.tmps[35]? = some (.int .i64 (wrap64 (d.tmod 4))) := by rw [ha]; exact putSel_on (e := (12, 35, .int .i64 (wrap64 (d.tmod 4)))) 8 rfl rfl (hon 12 (by kernel_rfl)) rfl
      replace ha := Aside0.mk ha
      have B0 := Aside0.mk Q_B0
      have F8 := Aside0.mk (Q_F8 (hon 8 (by kernel_rfl)) hb_)
      refine goes_ Tryd.func26 (by kernel_rfl) rfl #[.slice (some ⟨q8, 0, none⟩) 1 1, .int .i64 (wrap64 (d.tmod 4))] (by rfl) rfl rfl (by first | (simp only [List.map_toArray, List.map_cons, List.map_nil, Act.eval, Array.getD_eq_getD_getElem?, Option.getD_some, e31, e35]; done) | (simp only [List.map_toArray, List.map_cons, List.map_nil, Act.eval, Array.getD_eq_getD_getElem?, Option.getD_some, e31, e35]; rfl)) ?_
      with_reducible refine (HRP.out w' q8 F8.out).mono ?_
      rintro e w1 ⟨A13', c13', rfl, hc, hb⟩
      refine ⟨_, rfl, ?_⟩
      refine hK.out _ _ ⟨q6, q8, A13', c13', v14, m6_, m8_, (.slice A13' m c13'), m15_, (by rw [ha.out]; exact putSel_upk 9 hb_ rfl rfl rfl), (B0.out.trans (hb.mono B0.out.size)), fun h0_ h1_ => Kd.R_below (Q_F6 h0_ h1_) hb, fun _ h1_ => absurd ((up_self b 13).symm.trans h1_) (by decide), fun _ _ => hc, fun h0_ => absurd ((hoff 14 (by kernel_rfl)).symm.trans h0_) (by decide), Q_X6_, Q_X8_, fun _ => rfl, fun h0_ => absurd ((hoff 15 (by kernel_rfl)).symm.trans h0_) (by decide)⟩
    refine steps_cons ?_ ?_
    · rintro b a w' ⟨q6, q8, A13, c13, v14, m6_, m8_, m13_, m15_, ha, Q_B0, Q_F6, Q_F8, Q_F13, Q_F14, Q_X6_, Q_X8_, Q_X13_, Q_X15_⟩ hb_ hon hoff
      refine ⟨_, rfl, fun K hK => ?_⟩
      have e29 : a.tmps[29]? = some (m6_) := by rw [ha]; exact putSel_on (e := (6, 29, m6_)) 4 rfl rfl (hon 6 (by kernel_rfl)) rfl
      rw [Q_X6_ (hon 6 (by kernel_rfl))] at e29
      have e36 : a.tmps[36]? = some (m13_) := by rw [ha]; exact putSel_on (e := (13, 36, m13_)) 9 rfl rfl (hon 13 (by kernel_rfl)) rfl
      rw [Q_X13_ (hon 13 (by kernel_rfl))] at e36
      replace ha := Aside0.mk ha
      have B0 := Aside0.mk Q_B0
      have F6 := Aside0.mk (Q_F6 (hon 6 (by kernel_rfl)) hb_)
      have F13 := Aside0.mk (Q_F13 (hon 13 (by kernel_rfl)) hb_)
      refine Kd.R_append_rows_step k46 (w0 := wd) wd.heap.size (by rfl) (.tmp 29) (.tmp 36) 23 46 (.agg #[(.int .i64 0), (.string ⟨#[]⟩), (.int .i64 0)]) 32 rfl Tryd.underlying23 zi46 rfl (by decide) (by omega) (.slice (some ⟨q6, 0, none⟩) 1 1) [(⟨2, s0, 0⟩ : S46)] (rep m [dot1]) A13 m c13 (fun _ => True) (fun _ => False) (by simp only [Act.eval, Array.getD_eq_getD_getElem?, Option.getD_some, e29]) (by simp only [Act.eval, Array.getD_eq_getD_getElem?, Option.getD_some, e36]) ?aO ?aR (fun _ _ h => h) (fun _ h => h.elim) ?aF ?aB ?aS ?aL ?_
      (case aO => exact F6.out)
      (case aR => exact F13.out)
      (case aF => exact fun _ _ => trivial)
      (case aB => exact B0.out)
      (case aS => exact B0.out.size)
      (case aL => show (1 + m) * 32 ≤ _; omega)
      intro v7 w1 ho hb7 hg hat
      refine hK.out _ _ ⟨q6, q8, A13, c13, v7, m6_, m8_, m13_, m15_, (by rw [ha.out]; exact putSel_upk 10 hb_ rfl rfl rfl), hb7, fun _ h1_ => absurd ((up_self b 14).symm.trans h1_) (by decide), fun _ h1_ => absurd ((hon 13 (by kernel_rfl)).symm.trans h1_) (by decide), fun _ h1_ => absurd ((up_self b 14).symm.trans h1_) (by decide), fun _ => ho, Q_X6_, Q_X8_, Q_X13_, fun h0_ => absurd ((hoff 15 (by kernel_rfl)).symm.trans h0_) (by decide)⟩
    refine steps_cons ?_ ?_
    · rintro b a w' ⟨q6, q8, A13, c13, v14, m6_, m8_, m13_, m15_, ha, Q_B0, Q_F6, Q_F8, Q_F13, Q_F14, Q_X6_, Q_X8_, Q_X13_, Q_X15_⟩ hb_ hon hoff
      refine ⟨_, rfl, fun K hK => ?_⟩
      have e37 : a.tmps[37]? = some (v14) := by rw [ha]; exact putSel_on (e := (14, 37, v14)) 10 rfl rfl (hon 14 (by kernel_rfl)) rfl
      replace ha := Aside0.mk ha
      have B0 := Aside0.mk Q_B0
      have F14 := Aside0.mk (Q_F14 (hon 14 (by kernel_rfl)))
      refine value_ (w1 := w') (v := v14) (by rfl) rfl ?_ ?_
      · go_simp
        (try simp only [i64_w])
        try rfl
      refine hK.out _ _ ⟨q6, q8, A13, c13, v14, m6_, m8_, m13_, (v14), (by rw [ha.out]; exact putSel_upk 11 hb_ rfl rfl rfl), Q_B0, fun _ h1_ => absurd ((hon 14 (by kernel_rfl)).symm.trans h1_) (by decide), fun _ h1_ => absurd ((hon 13 (by kernel_rfl)).symm.trans h1_) (by decide), fun _ h1_ => absurd ((hon 14 (by kernel_rfl)).symm.trans h1_) (by decide), Q_F14, Q_X6_, Q_X8_, Q_X13_, fun _ => rfl⟩
    exact steps_nil
  · rintro b a w' hall ⟨q6, q8, A13, c13, v14, m6_, m8_, m13_, m15_, ha, Q_B0, Q_F6, Q_F8, Q_F13, Q_F14, Q_X6_, Q_X8_, Q_X13_, Q_X15_⟩
    have hb2_ := hall 2 (by kernel_rfl)
    have hb3_ := hall 3 (by kernel_rfl)
    have hb4_ := hall 4 (by kernel_rfl)
    have hb5_ := hall 5 (by kernel_rfl)
    have hb6_ := hall 6 (by kernel_rfl)
    have hb8_ := hall 8 (by kernel_rfl)
    have hb10_ := hall 10 (by kernel_rfl)
    have hb11_ := hall 11 (by kernel_rfl)
    have hb12_ := hall 12 (by kernel_rfl)
    have hb13_ := hall 13 (by kernel_rfl)
    have hb14_ := hall 14 (by kernel_rfl)
    have hb15_ := hall 15 (by kernel_rfl)
    subst ha
    obtain rfl := Q_X6_ hb6_
    obtain rfl := Q_X8_ hb8_
    obtain rfl := Q_X13_ hb13_
    obtain rfl := Q_X15_ hb15_
    simp only [putSel, hb2_, hb3_, hb4_, hb5_, hb6_, hb8_, hb10_, hb11_, hb12_, hb13_, hb14_, hb15_, if_true, Act.put, List.setIfInBounds_toArray, List.set_cons_zero, List.set_cons_succ]
    have B0 := Aside0.mk Q_B0
    clear Q_B0
    clear Q_F6
    clear Q_F8
    clear Q_F13
    have F14 := Aside0.mk (Q_F14 hb14_)
    clear Q_F14
    clear hall hb2_ hb3_ hb4_ hb5_ hb6_ hb8_ hb10_ hb11_ hb12_ hb13_ hb14_ hb15_
    go_wp2
    go_ret
    exact ⟨_, rfl, Kd.R_lower F14.out HBD.out.size, HBD.out.trans (B0.out.mono HBD.out.size)⟩
theorem tokens_call (k d : Int) (hk : 0 ≤ k ∧ k ≤ 255) (hd : 0 ≤ d ∧ d ≤ 255) (W : World) (hg : Laid W) : TokAt k d W := by
  have h : k % 6 = 0 ∨ k % 6 = 1 ∨ k % 6 = 2 ∨ k % 6 = 3 ∨ k % 6 = 4 ∨ k % 6 = 5 := by omega
  rcases h with h | h | h | h | h | h
  · exact tok0 k d hk hd h W
  · exact tok1 k d hk hd h W
  · exact tok2 k d hk hd h W
  · exact tok3 k d hk hd h W hg
  · exact tok45 k d hk hd (.inl h) W
  · exact tok45 k d hk hd (.inr h) W
end Go.Proofs.YtlpoglkddknedaaDoor.Z

/- MovetextPasses: Noise.tokens walked, at the kinds but the numbers. Conditions: as each theorem says. -/
import Derived.Test.YtlpoglkddknedaaDoorHc
namespace Go.Proofs.YtlpoglkddknedaaDoor.Z
open Go.RowKit Go.Proofs.YtlpoglkddknedaaDoor.T Go.Proofs.YtlpoglkddknedaaDoor.H Go.Proofs.YtlpoglkddknedaaDoorW.PrintWords Go.Proofs.YtlpoglkddknedaaDoorW.PrintLast
set_option linter.unusedVariables false
set_option linter.unusedSimpArgs false
theorem zi46 : (Tryd.prog.info? 46).map (fun i => (i.zero, i.size, i.bytes)) = some (some (.agg #[(.int .i64 0), (.string ⟨#[]⟩), (.int .i64 0)]), 3, 32) := by kernel_rfl
/-- A literal of tokens is a row of the call's own. -/
theorem litR (w : World) (b : Nat) (l : List S46) (k : Nat) (hk : l.length = k) (hl : k ≤ 1000000) (hb : b ≤ w.heap.size) (cs : Array Value) (hcs : cs = (flatT l).toArray) : Kd.R k46 46 (w.alloc (.cells cs 46)) b (fun _ => True) (.slice (some ⟨w.heap.size, 0, none⟩) k k) l := by
  subst hk hcs
  have hf := flatT_len l
  refine ⟨fun _ _ => trivial, flatT l, ⟨hf, .inr ⟨w.heap.size, l.length, (flatT l).toArray, rfl, hb, blk_new w _, Nat.le_refl _, by unfold maxLen; omega, by rw [List.size_toArray]; exact hf, ?_⟩⟩, flatT_reps _ _ _ _⟩
  rw [List.take_of_length_le (by show (flatT l).toArray.toList.length ≤ _; simp only [List.toList_toArray]; rw [hf]; exact Nat.le_refl _)]
def itoaS (d : Int) : ByteArray := ⟨(Lib.itoa d).toArray⟩
/-- What a call of tokens answers. -/
def TokAt (k d : Int) (w : World) : Prop := Calls Tryd.prog 30 #[.agg #[.int .u8 k, .int .u8 d]] w fun e w' => ∃ v, e = .returned v ∧ Kd.R k46 46 w' w.heap.size (fun _ => True) v (nz itoaS k d) ∧ Below w.heap.size w w'
theorem tok0 (k d : Int) (hk : 0 ≤ k ∧ k ≤ 255) (hd : 0 ≤ d ∧ d ≤ 255) (c : k % 6 = 0) (w : World) : TokAt k d w := by
  unfold TokAt nz
  rw [if_pos c]
  have hk0 := hk.1
  have hk1 := hk.2
  go_enter Tryd.func30, Tryd.ntmps30
  go_wp2
  go_ret
  have hal : Below w.heap.size w (w.alloc (.cells #[.int .u8 k, .int .u8 d] 68)) := (Below.refl _ _).alloc (Nat.le_refl _) _
  have h := litR (w.alloc (.cells #[.int .u8 k, .int .u8 d] 68)) w.heap.size [⟨10, ⟨#[49, 45, 48, 32, 41, 32, 91]⟩, 0⟩] 1 rfl (by decide) hal.size _ rfl
  rw [World.size_alloc] at h
  exact ⟨.slice (some ⟨w.heap.size + 1, 0, none⟩) 1 1, rfl, h, hal.alloc hal.size _⟩
theorem tok1 (k d : Int) (hk : 0 ≤ k ∧ k ≤ 255) (hd : 0 ≤ d ∧ d ≤ 255) (c : k % 6 = 1) (w : World) : TokAt k d w := by
  unfold TokAt nz
  rw [if_neg (by omega), if_pos c]
  have hk0 := hk.1
  have hk1 := hk.2
  go_enter Tryd.func30, Tryd.ntmps30
  go_wp2
  go_ret
  have hal : Below w.heap.size w (w.alloc (.cells #[.int .u8 k, .int .u8 d] 68)) := (Below.refl _ _).alloc (Nat.le_refl _) _
  have h := litR (w.alloc (.cells #[.int .u8 k, .int .u8 d] 68)) w.heap.size [⟨9, ⟨#[49, 52]⟩, 0⟩] 1 rfl (by decide) hal.size _ rfl
  rw [World.size_alloc] at h
  exact ⟨.slice (some ⟨w.heap.size + 1, 0, none⟩) 1 1, rfl, h, hal.alloc hal.size _⟩
theorem tok2 (k d : Int) (hk : 0 ≤ k ∧ k ≤ 255) (hd : 0 ≤ d ∧ d ≤ 255) (c : k % 6 = 2) (w : World) : TokAt k d w := by
  unfold TokAt nz
  rw [if_neg (by omega), if_neg (by omega), if_pos c]
  have hk0 := hk.1
  have hk1 := hk.2
  go_enter Tryd.func30, Tryd.ntmps30
  go_wp2
  go_ret
  have hal : Below w.heap.size w (w.alloc (.cells #[.int .u8 k, .int .u8 d] 68)) := (Below.refl _ _).alloc (Nat.le_refl _) _
  have h := litR (w.alloc (.cells #[.int .u8 k, .int .u8 d] 68)) w.heap.size [⟨11, ⟨#[33, 63]⟩, 0⟩] 1 rfl (by decide) hal.size _ rfl
  rw [World.size_alloc] at h
  exact ⟨.slice (some ⟨w.heap.size + 1, 0, none⟩) 1 1, rfl, h, hal.alloc hal.size _⟩
theorem rep_snoc (n : Nat) (l : List S46) : rep (n + 1) l = rep n l ++ l := by rw [rep_add, rep_one]
set_option maxHeartbeats 4000000 in
set_option maxRecDepth 100000 in
theorem tok45 (k d : Int) (hk : 0 ≤ k ∧ k ≤ 255) (hd : 0 ≤ d ∧ d ≤ 255) (c : k % 6 = 4 ∨ k % 6 = 5) (W : World) : TokAt k d W := by
  unfold TokAt nz
  rw [if_neg (by omega), if_neg (by omega), if_neg (by omega), if_neg (by omega)]
  have hk0 := hk.1
  have hk1 := hk.2
  have hd0 := hd.1
  have hd1 := hd.2
  obtain ⟨n, hn⟩ : ∃ n : Nat, (1 + d % 5).toNat = n := ⟨_, rfl⟩
  have hn1 : 1 + d % 5 = (n : Int) := by omega
  have hn5 : n ≤ 5 := by omega
  rw [hn]
  have q0 : (k % 6 == 0) = false := beq_eq_false_iff_ne.2 (by omega)
  have q1 : (k % 6 == 1) = false := beq_eq_false_iff_ne.2 (by omega)
  have q2 : (k % 6 == 2) = false := beq_eq_false_iff_ne.2 (by omega)
  have q3 : (k % 6 == 3) = false := beq_eq_false_iff_ne.2 (by omega)
  clear c hn
  go_enter Tryd.func30, Tryd.ntmps30
  go_upto_region 14 with (fail)
  obtain ⟨W1, hW1⟩ : ∃ w, W.alloc (.cells #[.int .u8 k, .int .u8 d] 68) = w := ⟨_, rfl⟩
  have HW1 := Lib.hid (show Below W.heap.size W W1 from hW1 ▸ (Below.refl _ _).alloc (Nat.le_refl _) _)
  rw [hW1]
  clear hW1
  go_loopw [5, 44] (fun v i wr => ∃ j : Nat, j ≤ n ∧ i = .int .i64 j ∧ Hid (Kd.R k46 46 wr W.heap.size (fun _ => True) v (rep j opn) ∧ Below W.heap.size W wr)) (fun _ i _ => n - (Go.RowKit.intOf i).toNat)
  case atStart => exact ⟨0, Nat.zero_le _, rfl, Lib.hid ⟨Kd.R_nil _ _ _ _ _, HW1.out⟩⟩
  case round =>
    clear HW1
    obtain ⟨j, hj, rfl, HP⟩ := hrel
    by_cases hlt : j < n
    · obtain ⟨Av, cv, ev⟩ := Kd.R_slice HP.out.1
      obtain ⟨q, hq⟩ : ∃ q, (rep j opn).length = q := ⟨_, rfl⟩
      have hq4 : q = j * 4 := by rw [← hq, rep_len]; rfl
      rw [hq] at ev
      subst ev
      have HQ := Lib.hid hq
      clear hq
      go_upto_region 16 with (first
        | (go_at_call 56; (with_reducible refine (sym_call ⟨#[101, 53]⟩ _).mono ?_); rintro e w1 ⟨rfl, hb1⟩; have HB1 := Lib.hid hb1; clear hb1)
        | (at_builtin
           refine Kd.R_append_rows k46 (w0 := W) W.heap.size rfl (.tmp 46) (.tmp 52) 23 46 (.agg #[(.int .i64 0), (.string ⟨#[]⟩), (.int .i64 0)]) 32 rfl Tryd.underlying23 zi46 rfl (by decide) (by omega) (.slice Av q cv) (rep j opn) opn (some ⟨w1.heap.size, 0, none⟩) 4 4 (fun _ => True) (fun _ => False) (by first | (go_simp; done) | (go_simp; rfl)) (by first | (go_simp; done) | (go_simp; rfl)) ?aO ?aR (fun _ _ h => h) (fun _ h => h.elim) ?aF ?aB ?aS ?aL ?_
           case aO => exact Kd.R_alloc (Kd.R_below HP.out.1 HB1.out) _
           case aR => exact (Kd.R_reads' (litR w1 w1.heap.size opn 4 rfl (by decide) (Nat.le_refl _) _ rfl)).2.2
           case aF => exact fun _ _ => trivial
           case aB => exact (HP.out.2.trans (HB1.out.mono HP.out.2.size)).alloc (Nat.le_trans HP.out.2.size HB1.out.size) _
           case aS => rw [World.size_alloc]; have h1 := HP.out.2.size; have h2 := HB1.out.size; omega
           case aL => have h1 := HQ.out; have h2 : opn.length = 4 := rfl; omega
           intro v2 w2 ho2 hb2 hg2 hat2
           have HR2 := Lib.hid (show Kd.R k46 46 w2 W.heap.size (fun _ => True) v2 (rep j opn ++ opn) ∧ Below W.heap.size W w2 from ⟨ho2, hb2⟩)
           clear ho2 hb2 hg2 hat2))
      go_wp2
      go_roundw
      case rel => exact ⟨j + 1, by omega, by go_num, Lib.hid (by rw [rep_snoc]; exact HR2.out)⟩
      case measure => simp [Go.RowKit.intOf]; omega
    · have hjn : j = n := by omega
      have hlt2 : decide (j < n) = false := decide_eq_false hlt
      have HP2 := Lib.hid (hjn ▸ HP.out : Kd.R k46 46 wr W.heap.size (fun _ => True) _ (rep n opn) ∧ Below W.heap.size W wr)
      clear HP hjn hlt hj
      go_upto_region 18 with (fail)
      clear hlt2
      go_loopw [5, 56] (fun v i wz => ∃ j : Nat, j ≤ n ∧ i = .int .i64 j ∧ Hid (Kd.R k46 46 wz W.heap.size (fun _ => True) v (rep n opn ++ rep j cls) ∧ Below W.heap.size W wz)) (fun _ i _ => n - (Go.RowKit.intOf i).toNat)
      case atStart => exact ⟨0, Nat.zero_le _, rfl, Lib.hid (by rw [show rep 0 cls = [] from rfl, List.append_nil]; exact HP2.out)⟩
      case round =>
        clear HP2
        obtain ⟨j2, hj, rfl, HP⟩ := hrel
        by_cases hlt : j2 < n
        · obtain ⟨Av, cv, ev⟩ := Kd.R_slice HP.out.1
          obtain ⟨q, hq⟩ : ∃ q, (rep n opn ++ rep j2 cls).length = q := ⟨_, rfl⟩
          have hq4 : q ≤ 1000 := by
            have h1 : (rep n opn).length = n * 4 := rep_len _ _
            have h2 : (rep j2 cls).length = j2 * 2 := rep_len _ _
            rw [← hq, List.length_append]
            omega
          rw [hq] at ev
          subst ev
          have HQ := Lib.hid hq
          clear hq
          go_upto_region 20 with (first
            | (go_at_call 56; (with_reducible refine (sym_call ⟨#[49, 45, 48]⟩ _).mono ?_); rintro e w1 ⟨rfl, hb1⟩; have HB1 := Lib.hid hb1; clear hb1)
            | (at_builtin
               refine Kd.R_append_rows k46 (w0 := W) W.heap.size rfl (.tmp 58) (.tmp 62) 23 46 (.agg #[(.int .i64 0), (.string ⟨#[]⟩), (.int .i64 0)]) 32 rfl Tryd.underlying23 zi46 rfl (by decide) (by omega) (.slice Av q cv) (rep n opn ++ rep j2 cls) cls (some ⟨w1.heap.size, 0, none⟩) 2 2 (fun _ => True) (fun _ => False) (by first | (go_simp; done) | (go_simp; rfl)) (by first | (go_simp; done) | (go_simp; rfl)) ?aO ?aR (fun _ _ h => h) (fun _ h => h.elim) ?aF ?aB ?aS ?aL ?_
               case aO => exact Kd.R_alloc (Kd.R_below HP.out.1 HB1.out) _
               case aR => exact (Kd.R_reads' (litR w1 w1.heap.size cls 2 rfl (by decide) (Nat.le_refl _) _ rfl)).2.2
               case aF => exact fun _ _ => trivial
               case aB => exact (HP.out.2.trans (HB1.out.mono HP.out.2.size)).alloc (Nat.le_trans HP.out.2.size HB1.out.size) _
               case aS => rw [World.size_alloc]; have h1 := HP.out.2.size; have h2 := HB1.out.size; omega
               case aL => have h1 := HQ.out; have h2 : cls.length = 2 := rfl; omega
               intro v2 w2 ho2 hb2 hg2 hat2
               have HR2 := Lib.hid (show Kd.R k46 46 w2 W.heap.size (fun _ => True) v2 (rep n opn ++ rep j2 cls ++ cls) ∧ Below W.heap.size W w2 from ⟨ho2, hb2⟩)
               clear ho2 hb2 hg2 hat2))
          go_wp2
          go_roundw
          case rel => exact ⟨j2 + 1, by omega, by go_num, Lib.hid (by rw [rep_snoc, ← List.append_assoc]; exact HR2.out)⟩
          case measure => simp [Go.RowKit.intOf]; omega
        · have hjn : j2 = n := by omega
          have hlt2 : decide (j2 < n) = false := decide_eq_false hlt
          have HP3 := Lib.hid (hjn ▸ HP.out : Kd.R k46 46 wr W.heap.size (fun _ => True) _ (rep n opn ++ rep n cls) ∧ Below W.heap.size W wr)
          clear HP hjn hlt hj
          go_wp2
          go_ret
          exact ⟨_, rfl, HP3.out.1, HP3.out.2⟩
end Go.Proofs.YtlpoglkddknedaaDoor.Z

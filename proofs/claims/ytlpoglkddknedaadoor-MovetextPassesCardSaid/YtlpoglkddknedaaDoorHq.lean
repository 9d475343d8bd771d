/- movetext.Tags: the tags of a list of tokens, as tagsF tells them. Condition: tagsF answers. -/
import Derived.Test.YtlpoglkddknedaaDoorHp
import Derived.Test.YtlpoglkddknedaaDoorTx6
import Derived.IntWalk
import Derived.BigRegion
import Derived.RegionTactic
namespace Go.Proofs.YtlpoglkddknedaaDoor.H
open Go.RowKit Go.Proofs.YtlpoglkddknedaaDoor.T Go.Proofs.YtlpoglkddknedaaDoorW.PrintWords Go.Proofs.YtlpoglkddknedaaDoorW.PrintLast
set_option linter.unusedVariables false
set_option linter.unusedSimpArgs false

theorem skip_ev (l : List S46) (hlen : l.length ≤ 140737488351232) : ∀ n i : Nat, l.length - i ≤ n → i ≤ l.length → Ev (fun k => movetext_skip.f k l (i : Int)) ((skp l i : Nat) : Int) := by
  intro n
  induction n with
  | zero =>
    intro i h1 h2
    have e : skp l i = i := by unfold skp; rw [List.drop_eq_nil_of_le (by omega), lead]; rfl
    rw [e]
    refine Ev.step (fun k => by rw [movetext_skip.f, movetext_skip.l0, if_neg (show ¬ (i : Int) < (l.length : Int) by omega)]) (Ev.now _)
  | succ n ih =>
    intro i h1 h2
    by_cases hi : i < l.length
    · have hs := lead_step 10 l i hi
      by_cases hk : (rd_T46 l (i : Int)).f0 = 10
      · have e : skp l i = skp l (i + 1) := by unfold skp; rw [hs, if_pos hk]; omega
        rw [e]
        refine Ev.step (fun k => ?_) (ih (i + 1) (by omega) (by omega))
        show movetext_skip.l0 (k + 1) l (i : Int) = movetext_skip.l0 k l ((i + 1 : Nat) : Int)
        rw [movetext_skip.l0, if_pos (show (i : Int) < (l.length : Int) by omega), if_pos (show 0 ≤ (i : Int) by omega), if_pos hk, Go.IntWalk.wrap64_in _ (by omega)]
        rfl
      · have e : skp l i = i := by unfold skp; rw [hs, if_neg hk]; rfl
        rw [e]
        refine Ev.step (fun k => ?_) (Ev.now _)
        show movetext_skip.l0 (k + 1) l (i : Int) = _
        rw [movetext_skip.l0, if_pos (show (i : Int) < (l.length : Int) by omega), if_pos (show 0 ≤ (i : Int) by omega), if_neg hk]
    · have e : skp l i = i := by unfold skp; rw [List.drop_eq_nil_of_le (by omega), lead]; rfl
      rw [e]
      refine Ev.step (fun k => by rw [movetext_skip.f, movetext_skip.l0, if_neg (show ¬ (i : Int) < (l.length : Int) by omega)]) (Ev.now _)
theorem skip_any (A0 : Option Addr) (c0 : Nat) (l : List S46) (i : Nat) (z : Int) (hz : z = (i : Int)) (w : World) (hlen : l.length ≤ 140737488351232) (hr0 : Kd.C k46 w A0 l.length l) (hc0 : l.length ≤ c0) (hi : i ≤ l.length) :
    Calls Tryd.prog 42 #[.slice A0 l.length c0, .int .i64 z] w fun e w' => e = .returned (.int .i64 ((skp l i : Nat) : Int)) ∧ Drawn0 w w' := by
  subst hz
  obtain ⟨k, hk⟩ := Ev.rounds (skip_ev l hlen (l.length - i) i (Nat.le_refl _) hi)
  exact movetext_skip.calls k A0 c0 l i _ w hr0 hc0 hk

def tagJ (A0 : Option Addr) (c0 : Nat) (l0 : List S46) (R : List S56 × Int × Int) (W : World) (l : Nat) (a' : Act) (w' : World) : Prop := match l with
  | 0 => ∃ (tb i : Nat) (out : List S56) (Av : Option Addr) (cv : Nat) (x y : ByteArray) (u : Nat → Value), a' = { tmps := (.slice A0 l0.length c0 :: u 1 :: u 2 :: u 3 :: .slice none 0 0 :: .int .i64 0 :: .int .i64 0 :: .slice Av out.length cv :: .pointer (some ⟨tb, 0, none⟩) :: .int .i64 (i : Int) :: u 10 :: u 11 :: u 12 :: u 13 :: u 14 :: u 15 :: u 16 :: u 17 :: u 18 :: u 19 :: u 20 :: u 21 :: u 22 :: u 23 :: u 24 :: u 25 :: u 26 :: u 27 :: u 28 :: u 29 :: u 30 :: u 31 :: u 32 :: u 33 :: u 34 :: u 35 :: u 36 :: u 37 :: u 38 :: u 39 :: u 40 :: u 41 :: u 42 :: u 43 :: u 44 :: u 45 :: u 46 :: u 47 :: u 48 :: u 49 :: u 50 :: u 51 :: u 52 :: u 53 :: u 54 :: u 55 :: u 56 :: u 57 :: u 58 :: u 59 :: u 60 :: u 61 :: u 62 :: u 63 :: u 64 :: u 65 :: u 66 :: u 67 :: u 68 :: u 69 :: u 70 :: u 71 :: u 72 :: u 73 :: u 74 :: u 75 :: u 76 :: u 77 :: u 78 :: u 79 :: u 80 :: u 81 :: u 82 :: u 83 :: u 84 :: u 85 :: u 86 :: u 87 :: u 88 :: []).toArray, defers := [] } ∧ i ≤ l0.length ∧ out.length ≤ 24 ∧ W.heap.size ≤ tb ∧ w'.heap[tb]? = some (.cells #[.string x, .string y] 56 (0, 0)) ∧ Kd.R k56 56 w' W.heap.size (fun k => k ≠ tb) (.slice Av out.length cv) out ∧ Below W.heap.size W w' ∧ ∃ k, tagsN k l0 i out = some R
  | _ => False
def tagM (n : Nat) (a' : Act) (w' : World) : Nat := n + 1 - (Go.RowKit.intOf (a'.tmps.getD 9 undef)).toNat

set_option maxHeartbeats 4000000 in
set_option maxRecDepth 100000 in
theorem Tags_any (A0 : Option Addr) (c0 : Nat) (l0 : List S46) (a1 : Int) (W : World) (hlen : l0.length ≤ 140737488351232) (hr0 : Kd.C k46 W A0 l0.length l0) (hc0 : l0.length ≤ c0) (R : List S56 × Int × Int) (ha0 : 0 ≤ a1) (ha1 : a1 ≤ l0.length) (hR : ∃ k, tagsN k l0 (skp l0 a1.toNat) [] = some R) :
    Calls Tryd.prog 11 #[.slice A0 l0.length c0, .int .i64 a1] W fun e w' => ∃ v0_ : Value, e = .returned (.tuple #[v0_, .int .i64 R.2.1, .int .i64 R.2.2]) ∧ Kd.R k56 56 w' W.heap.size (fun _ => True) v0_ R.1 ∧ Below W.heap.size W w' := by
  obtain ⟨n1, rfl⟩ := Int.eq_ofNat_of_zero_le ha0
  rw [Int.toNat_natCast] at hR
  have HR := Lib.hid hr0
  have HC := Lib.hid hc0
  have HN := Lib.hid hR
  clear hr0 hc0 hR
  have c1 : decide ((n1 : Int) < 0) = false := decide_eq_false (by omega)
  have c2 : decide ((l0.length : Int) < (n1 : Int)) = false := decide_eq_false (by omega)
  go_enter Tryd.func11, Tryd.ntmps11
  go_wp2
  refine wp_scope_labels (tagJ A0 c0 l0 R W) (fun _ a' w' => tagM l0.length a' w') ?_ ?_ ?_
  · intro l a' w' h
    match l, h with
    | 0, _ => rfl
  · intro h0
    have H0 := Lib.hid h0
    clear h0
    go_wp2_with (first
      | ((with_reducible refine gate_dst (N := 8) rfl ?_); (try (refine gate_guard (by rfl) ?_; dsimp only)); refine box_event ?hg (N := 8) ?hd (cs := #[.string (⟨#[]⟩ : ByteArray), .string (⟨#[]⟩ : ByteArray)]) (t := 56) ?hr ?_; (case hd => rfl); (case hg => rfl); (case hr => first | (go_simp; done) | (go_simp; rfl)); intro tb htb w4 hbox hb; have HBX := Lib.hid hbox; have HB4 := Lib.hid hb; have HTB := Lib.hid htb; clear hbox hb htb)
      | (go_at_call 42; (with_reducible refine (skip_any A0 c0 l0 n1 _ rfl w4 hlen (Kd.C_below HR.out HB4.out) HC.out (by omega)).mono ?_); rintro e w5 ⟨rfl, nd, rfl⟩))
    refine wp_label ?_
    rename_i K hK
    refine hK _ _ ?_
    have hsk := skp_le l0 n1 (by omega)
    refine H0.out _ _ ⟨tb, skp l0 n1, [], none, 0, ⟨#[]⟩, ⟨#[]⟩, (fun i => List.getD [undef, _, _, _, undef, undef, undef, undef, undef, undef, _, _, _, _, _, _, _, _, _, _, _, _, _, _, _, _, _, _, _, _, _, _, _, _, _, _, _, _, _, _, _, _, _, _, _, _, _, _, _, _, _, _, _, _, _, _, _, _, _, _, _, _, _, _, _, _, _, _, _, _, _, _, _, _, _, _, _, _, _, _, _, _, _, _, _, _, _, _, _] i undef), rfl, hsk.2, by decide, by rw [HTB.out]; exact Nat.le_refl _, blk_drewN HBX.out nd, Kd.R_nil _ _ _ _ _, belDrew HB4.out nd, HN.out⟩
  · intro l a' w' h
    match l, h with
    | 0, h' =>
      clear h HN c1 c2
      obtain ⟨tb, i, out, Av, cv, x, y, u, rfl, hi, hout, htb, hbk, hkr, hbel, k, hk⟩ := h'
      simp only [behind, findLabel, seqTail, beq_self_eq_true, ↓reduceIte, Option.getD_some, Nat.reduceBEq, Bool.false_eq_true]
      have HBK := Lib.hid hbk
      have HKR := Lib.hid hkr
      have HBE := Lib.hid hbel
      clear hbk hkr hbel
      cases k with
      | zero => simp [tagsN] at hk
      | succ k =>
        rw [tagsN] at hk
        by_cases hlt : i < l0.length
        · obtain ⟨ad, e, hx0, hx1, hx2⟩ := at_T46 (Kd.C_below HR.out HBE.out) (i : Int) (by omega) (by omega)
          subst e
          obtain ⟨t, ht⟩ : ∃ t, (rd_T46 l0 (i : Int)).f0 = t := ⟨_, rfl⟩
          have ht2 : l0[i].f0 = t := by rw [← ht]; unfold rd_T46; rw [List.getD_eq_getElem?_getD, Int.toNat_natCast, List.getElem?_eq_getElem hlt]; rfl
          rw [ht, Int.toNat_natCast] at hx0
          clear hx1 hx2
          have c1 : (l0.length ≤ i) = False := eq_false (by omega)
          have p1 : (0 ≤ (i : Int)) = True := eq_true (by omega)
          have p2 : ((i : Int) < (l0.length : Int)) = True := eq_true (by omega)
          by_cases k5 : t = 5
          · subst k5
            rw [if_pos ⟨hlt, ht2⟩] at hk
            clear ht ht2
            by_cases h24 : out.length = 24
            · rw [if_pos h24] at hk
              obtain rfl := Option.some.inj hk
              clear hk
              have e24 : ((out.length : Int) == 24) = true := beq_iff_eq.2 (by omega)
              go_wp2
              simp only [jumps]
              go_ret3
              exact ⟨_, rfl, Kd.R_nil _ _ _ _ _, HBE.out⟩
            · rw [if_neg h24] at hk
              have e24 : ((out.length : Int) == 24) = false := beq_eq_false_iff_ne.2 (by omega)
              have HK := Lib.hid hk
              clear hk
              go_wp2
              obtain ⟨pb, hpb⟩ : ∃ pb, w'.heap.size = pb := ⟨_, rfl⟩
              obtain ⟨w1, hw1⟩ : ∃ w1, w'.alloc (Obj.cells #[.int .i64 2, .pointer (some ⟨tb, 0, none⟩), .int .i64 1, .pointer (some ⟨tb, 1, none⟩), .int .i64 6, .pointer none] 89) = w1 := ⟨_, rfl⟩
              have hP1 : w1.heap[pb]? = some (.cells #[.int .i64 2, .pointer (some ⟨tb, 0, none⟩), .int .i64 1, .pointer (some ⟨tb, 1, none⟩), .int .i64 6, .pointer none] 89 (0, 0)) := by rw [← hw1, ← hpb]; exact blk_new _ _
              have hT1 : w1.heap[tb]? = some (.cells #[.string x, .string y] 56 (0, 0)) := by rw [← hw1]; exact blk_alloc HBK.out _
              have hK1 : Kd.R k56 56 w1 W.heap.size (fun k => k ≠ tb) (.slice Av out.length cv) out := by rw [← hw1]; exact Kd.R_below HKR.out ((Below.refl _ _).alloc (Nat.le_refl _) _)
              have hB1 : Below W.heap.size W w1 := by rw [← hw1]; exact HBE.out.alloc HBE.out.size _
              have hne : pb ≠ tb := by rw [← hpb]; exact Nat.ne_of_gt (blk_lt HBK.out)
              have hgeP : W.heap.size ≤ pb := by rw [← hpb]; exact HBE.out.size
              rw [hw1, hpb]
              have HP1 := Lib.hid hP1
              have HT1 := Lib.hid hT1
              have HK1 := Lib.hid hK1
              have HB1 := Lib.hid hB1
              have hjump : ∀ (i' : Nat) (out' : List S56) (Av' : Option Addr) (cv' : Nat) (x' y' : ByteArray) (u' : Nat → Value) (w'' : World) (n' : Nat), n' = out'.length → i < i' → i' ≤ l0.length → out'.length ≤ 24 → w''.heap[tb]? = some (.cells #[.string x', .string y'] 56 (0, 0)) → Kd.R k56 56 w'' W.heap.size (fun k => k ≠ tb) (.slice Av' out'.length cv') out' → Below W.heap.size W w'' → (∃ k, tagsN k l0 i' out' = some R) → tagJ (some ad) c0 l0 R W 0 { tmps := (.slice (some ad) l0.length c0 :: u' 1 :: u' 2 :: u' 3 :: .slice none 0 0 :: .int .i64 0 :: .int .i64 0 :: .slice Av' n' cv' :: .pointer (some ⟨tb, 0, none⟩) :: .int .i64 (i' : Int) :: u' 10 :: u' 11 :: u' 12 :: u' 13 :: u' 14 :: u' 15 :: u' 16 :: u' 17 :: u' 18 :: u' 19 :: u' 20 :: u' 21 :: u' 22 :: u' 23 :: u' 24 :: u' 25 :: u' 26 :: u' 27 :: u' 28 :: u' 29 :: u' 30 :: u' 31 :: u' 32 :: u' 33 :: u' 34 :: u' 35 :: u' 36 :: u' 37 :: u' 38 :: u' 39 :: u' 40 :: u' 41 :: u' 42 :: u' 43 :: u' 44 :: u' 45 :: u' 46 :: u' 47 :: u' 48 :: u' 49 :: u' 50 :: u' 51 :: u' 52 :: u' 53 :: u' 54 :: u' 55 :: u' 56 :: u' 57 :: u' 58 :: u' 59 :: u' 60 :: u' 61 :: u' 62 :: u' 63 :: u' 64 :: u' 65 :: u' 66 :: u' 67 :: u' 68 :: u' 69 :: u' 70 :: u' 71 :: u' 72 :: u' 73 :: u' 74 :: u' 75 :: u' 76 :: u' 77 :: u' 78 :: u' 79 :: u' 80 :: u' 81 :: u' 82 :: u' 83 :: u' 84 :: u' 85 :: u' 86 :: u' 87 :: u' 88 :: []).toArray, defers := [] } w'' ∧ tagM l0.length { tmps := (.slice (some ad) l0.length c0 :: u' 1 :: u' 2 :: u' 3 :: .slice none 0 0 :: .int .i64 0 :: .int .i64 0 :: .slice Av' n' cv' :: .pointer (some ⟨tb, 0, none⟩) :: .int .i64 (i' : Int) :: u' 10 :: u' 11 :: u' 12 :: u' 13 :: u' 14 :: u' 15 :: u' 16 :: u' 17 :: u' 18 :: u' 19 :: u' 20 :: u' 21 :: u' 22 :: u' 23 :: u' 24 :: u' 25 :: u' 26 :: u' 27 :: u' 28 :: u' 29 :: u' 30 :: u' 31 :: u' 32 :: u' 33 :: u' 34 :: u' 35 :: u' 36 :: u' 37 :: u' 38 :: u' 39 :: u' 40 :: u' 41 :: u' 42 :: u' 43 :: u' 44 :: u' 45 :: u' 46 :: u' 47 :: u' 48 :: u' 49 :: u' 50 :: u' 51 :: u' 52 :: u' 53 :: u' 54 :: u' 55 :: u' 56 :: u' 57 :: u' 58 :: u' 59 :: u' 60 :: u' 61 :: u' 62 :: u' 63 :: u' 64 :: u' 65 :: u' 66 :: u' 67 :: u' 68 :: u' 69 :: u' 70 :: u' 71 :: u' 72 :: u' 73 :: u' 74 :: u' 75 :: u' 76 :: u' 77 :: u' 78 :: u' 79 :: u' 80 :: u' 81 :: u' 82 :: u' 83 :: u' 84 :: u' 85 :: u' 86 :: u' 87 :: u' 88 :: []).toArray, defers := [] } w'' < tagM l0.length { tmps := (.slice (some ad) l0.length c0 :: u 1 :: u 2 :: u 3 :: .slice none 0 0 :: .int .i64 0 :: .int .i64 0 :: .slice Av out.length cv :: .pointer (some ⟨tb, 0, none⟩) :: .int .i64 (i : Int) :: u 10 :: u 11 :: u 12 :: u 13 :: u 14 :: u 15 :: u 16 :: u 17 :: u 18 :: u 19 :: u 20 :: u 21 :: u 22 :: u 23 :: u 24 :: u 25 :: u 26 :: u 27 :: u 28 :: u 29 :: u 30 :: u 31 :: u 32 :: u 33 :: u 34 :: u 35 :: u 36 :: u 37 :: u 38 :: u 39 :: u 40 :: u 41 :: u 42 :: u 43 :: u 44 :: u 45 :: u 46 :: u 47 :: u 48 :: u 49 :: u 50 :: u 51 :: u 52 :: u 53 :: u 54 :: u 55 :: u 56 :: u 57 :: u 58 :: u 59 :: u 60 :: u 61 :: u 62 :: u 63 :: u 64 :: u 65 :: u 66 :: u 67 :: u 68 :: u 69 :: u 70 :: u 71 :: u 72 :: u 73 :: u 74 :: u 75 :: u 76 :: u 77 :: u 78 :: u 79 :: u 80 :: u 81 :: u 82 :: u 83 :: u 84 :: u 85 :: u 86 :: u 87 :: u 88 :: []).toArray, defers := [] } w' := by
                intro i' out' Av' cv' x' y' u' w'' n' hn h1 h2 h3 h4 h5 h6 h7
                subst hn
                refine ⟨⟨tb, i', out', Av', cv', x', y', u', rfl, h2, h3, htb, h4, h5, h6, h7⟩, ?_⟩
                show l0.length + 1 - ((i' : Nat) : Int).toNat < l0.length + 1 - ((i : Nat) : Int).toNat
                rw [Int.toNat_natCast, Int.toNat_natCast]
                omega
              have HJ := Lib.hid hjump
              clear hjump hP1 hT1 hK1 hB1 hw1 hpb HBK HKR HBE hx0 c1
              obtain ⟨p1, hp1⟩ : ∃ p1, skp l0 (i + 1) = p1 := ⟨_, rfl⟩
              obtain ⟨p2, hp2⟩ : ∃ p2, skp l0 (p1 + 1) = p2 := ⟨_, rfl⟩
              obtain ⟨p3, hp3⟩ : ∃ p3, skp l0 (p2 + 1) = p3 := ⟨_, rfl⟩
              have hle1 := skp_le l0 (i + 1) (by omega)
              have hle2 := skp_le l0 (p1 + 1)
              have hle3 := skp_le l0 (p2 + 1)
              have hk2 := HK.out
              rw [hp1, hp2, hp3] at hk2
              rw [hp1] at hle1
              rw [hp2] at hle2
              rw [hp3] at hle3
              have HKK := Lib.hid hk2
              have HL2 := Lib.hid hle2
              have HL3 := Lib.hid hle3
              have HE1 := Lib.hid hp1
              have HE2 := Lib.hid hp2
              have HE3 := Lib.hid hp3
              clear hk2 HK hle2 hle3 hp1 hp2 hp3
              go_loopw [4, 5, 6, 9, 47] (fun v4 v5 v6 v9 v47 wr => ∃ x y : ByteArray, (v4 = .slice none 0 0 ∧ v5 = .int .i64 0 ∧ v6 = .int .i64 0) ∧ ((v9 = .int .i64 (i : Int) ∧ v47 = .int .i64 0) ∨ (v9 = .int .i64 (p1 : Int) ∧ v47 = .int .i64 1 ∧ kindAt l0 p1 2 ∧ x = txt l0 p1) ∨ (v9 = .int .i64 (p2 : Int) ∧ v47 = .int .i64 2 ∧ kindAt l0 p1 2 ∧ x = txt l0 p1 ∧ kindAt l0 p2 1 ∧ y = txt l0 p2) ∨ (v9 = .int .i64 (p3 : Int) ∧ v47 = .int .i64 3 ∧ kindAt l0 p1 2 ∧ x = txt l0 p1 ∧ kindAt l0 p2 1 ∧ y = txt l0 p2 ∧ kindAt l0 p3 6)) ∧ wr.heap[pb]? = some (.cells #[.int .i64 2, .pointer (some ⟨tb, 0, none⟩), .int .i64 1, .pointer (some ⟨tb, 1, none⟩), .int .i64 6, .pointer none] 89 (0, 0)) ∧ wr.heap[tb]? = some (.cells #[.string x, .string y] 56 (0, 0)) ∧ Kd.R k56 56 wr W.heap.size (fun k => k ≠ tb) (.slice Av out.length cv) out ∧ Below W.heap.size W wr) (fun _ _ _ _ v47 _ => 3 - (Go.RowKit.intOf v47).toNat)
              case atStart => exact ⟨x, y, ⟨rfl, rfl, rfl⟩, .inl ⟨rfl, rfl⟩, HP1.out, HT1.out, HK1.out, HB1.out⟩
              case round =>
                clear HP1 HT1 HK1 HB1
                obtain ⟨x, y, ⟨rfl, rfl, rfl⟩, hst, hp, ht, hkr, hbe⟩ := hrel
                have HP := Lib.hid hp
                have HT := Lib.hid ht
                have HKR := Lib.hid hkr
                have HBE := Lib.hid hbe
                clear hp ht hkr hbe
                rcases hst with ⟨rfl, rfl⟩ | ⟨rfl, rfl, hk1, htx1⟩ | ⟨rfl, rfl, hk1, htx1, hk2, hy2⟩ | ⟨rfl, rfl, hk1, htx1, hk2, hy2, hk3⟩
                · have hq0 := (blk_cell HP.out 0).trans (show _ = some (Value.int .i64 2) from rfl)
                  have hq1 := (blk_cell HP.out 1).trans (show _ = some (Value.pointer (some ⟨tb, 0, none⟩)) from rfl)
                  have hjl : i < l0.length := (by omega)
                  go_upto_region 14 with (first
                    | ((with_reducible refine gate_dst (N := 11) rfl ?_); (try (refine gate_guard (by rfl) ?_; dsimp only)); refine box_event ?hg (N := 11) ?hd (cs := #[.int .i64 0, .pointer none]) (t := 89) ?hr ?_; (case hd => rfl); (case hg => rfl); (case hr => first | (go_simp; done) | (go_simp; rfl)); intro qb hqb w5 hbox hb; have hz0 : w5.cell? ⟨qb, 0, none⟩ = some (.int .i64 0) := (blk_cell hbox 0).trans rfl; have hz1 : w5.cell? ⟨qb, 1, none⟩ = some (.pointer none) := (blk_cell hbox 1).trans rfl; have hzf0 := blk_frozen hbox 0; have hzf1 := blk_frozen hbox 1; have HBX := Lib.hid hbox; have HB5 := Lib.hid hb; have HQB := Lib.hid hqb; clear hbox hb hqb)
                    | (go_at_call 42; (with_reducible refine (skip_any (some ad) c0 l0 (i + 1) _ (by omega) _ hlen (Kd.C_below HR.out (below_set (below_set (HBE.out.trans (HB5.out.mono HBE.out.size)) (by rw [HQB.out]; exact HBE.out.size)) (by rw [HQB.out]; exact HBE.out.size))) HC.out (by omega)).mono ?_); rintro e w6 ⟨rfl, nd, rfl⟩; rw [HE1.out]))
                  obtain ⟨w6, hw6⟩ : ∃ w6, (((w5.setCell ⟨qb, 0, none⟩ (.int .i64 2)).setCell ⟨qb, 1, none⟩ (.pointer (some ⟨tb, 0, none⟩))).drewN nd) = w6 := ⟨_, rfl⟩
                  have hgW : W.heap.size ≤ qb := by rw [HQB.out]; exact HBE.out.size
                  have hqT : tb ≠ qb := by rw [HQB.out]; exact Nat.ne_of_lt (blk_lt HT.out)
                  have hqP : pb ≠ qb := by rw [HQB.out]; exact Nat.ne_of_lt (blk_lt HP.out)
                  have hQ6 : w6.heap[qb]? = some (.cells #[.int .i64 2, .pointer (some ⟨tb, 0, none⟩)] 89 (0, 0)) := by rw [← hw6]; exact blk_drewN (blk_put (blk_put HBX.out 0 _ rfl) 1 _ rfl) nd
                  have hT6 : w6.heap[tb]? = some (.cells #[.string x, .string y] 56 (0, 0)) := by rw [← hw6]; exact blk_drewN (blk_far (blk_far (blk_below HT.out HB5.out) hqT _) hqT _) nd
                  have hP6 : w6.heap[pb]? = some (.cells #[.int .i64 2, .pointer (some ⟨tb, 0, none⟩), .int .i64 1, .pointer (some ⟨tb, 1, none⟩), .int .i64 6, .pointer none] 89 (0, 0)) := by rw [← hw6]; exact blk_drewN (blk_far (blk_far (blk_below HP.out HB5.out) hqP _) hqP _) nd
                  have hK6 : Kd.R k56 56 w6 W.heap.size (fun k => k ≠ tb) (.slice Av out.length cv) out := by rw [← hw6]; exact Kd.R_drewN (Kd.R_mono (Kd.R_far (p := ⟨qb, 1, none⟩) (Kd.R_far (p := ⟨qb, 0, none⟩) (Kd.R_types (Kd.R_below HKR.out HB5.out) HBX.out (by decide)) (fun _ hk => hk.2) _) (fun _ hk => hk.2) _) (fun _ hk => hk.1)) nd
                  have hB6 : Below W.heap.size W w6 := by rw [← hw6]; exact belDrew (below_set (below_set (HBE.out.trans (HB5.out.mono HBE.out.size)) hgW) hgW) nd
                  rw [hw6]
                  clear hw6 hz0 hz1 hzf0 hzf1 HBX HB5 HQB hq0 hq1 HP HT HKR HBE
                  have hs0 := (blk_cell hQ6 0).trans (show _ = some (Value.int .i64 2) from rfl)
                  have hs1 := (blk_cell hQ6 1).trans (show _ = some (Value.pointer (some ⟨tb, 0, none⟩)) from rfl)
                  have ht0 := (blk_cell hT6 0).trans (show _ = some (Value.string x) from rfl)
                  have ht1 := (blk_cell hT6 1).trans (show _ = some (Value.string y) from rfl)
                  have htf0 := blk_frozen hT6 0
                  have htf1 := blk_frozen hT6 1
                  have HT6 := Lib.hid hT6
                  have HP6 := Lib.hid hP6
                  have HK6 := Lib.hid hK6
                  have HB6 := Lib.hid hB6
                  clear hQ6 hT6 hP6 hK6 hB6
                  by_cases hend : p1 < l0.length
                  · obtain ⟨ad2, e, hx0, hx1, _⟩ := at_T46 (Kd.C_below HR.out HB6.out) (p1 : Int) (by omega) (by omega)
                    obtain rfl := Option.some.inj e
                    rw [Int.toNat_natCast] at hx0 hx1
                    have m1 : (l0.length ≤ p1) = False := eq_false (by omega)
                    have m2 : (0 ≤ (p1 : Int)) = True := eq_true (by omega)
                    have m3 : ((p1 : Int) < (l0.length : Int)) = True := eq_true (by omega)
                    have hkk : (kindAt l0 p1 2) = ((rd_T46 l0 (p1 : Int)).f0 = 2) := by
                      have e1 : ∀ h : p1 < l0.length, l0[p1] = rd_T46 l0 (p1 : Int) := by intro h; unfold rd_T46; rw [List.getD_eq_getElem?_getD, Int.toNat_natCast, List.getElem?_eq_getElem h]; rfl
                      unfold kindAt
                      exact propext ⟨fun ⟨h, he⟩ => by rw [← e1 h]; exact he, fun h => ⟨hend, by rw [e1 hend]; exact h⟩⟩
                    by_cases hkd : (rd_T46 l0 (p1 : Int)).f0 = 2
                    · have hkq : kindAt l0 p1 2 := by rw [hkk]; exact hkd
                      rw [hkd] at hx0
                      clear hkk hkd
                      go_quiet (fail)
                      go_wp2
                      go_region
                      go_wp2
                      exact ⟨⟨txt l0 p1, y, ⟨rfl, rfl, rfl⟩, .inr (.inl ⟨rfl, rfl, hkq, rfl⟩), blk_far (blk_drewN HP6.out _) hne _, blk_put (blk_drewN HT6.out _) 0 _ rfl, Kd.R_far (p := ⟨tb, 0, none⟩) (Kd.R_drewN HK6.out _) (fun _ hk => hk) _, below_set (belDrew HB6.out _) htb⟩, by show 3 - 1 < 3 - 0; decide⟩
                    · have hkq : ¬ kindAt l0 p1 2 := by rw [hkk]; exact hkd
                      obtain ⟨tk, htk⟩ : ∃ tk, (rd_T46 l0 (p1 : Int)).f0 = tk := ⟨_, rfl⟩
                      rw [htk] at hx0 hkd
                      have bk : (tk == 2) = false := beq_eq_false_iff_ne.2 hkd
                      have bk2 : (tk != 2) = true := bne_iff_ne.2 hkd
                      clear hkk htk hkd
                      go_quiet (fail)
                      have hk9 := HKK.out
                      rw [if_neg hkq] at hk9
                      obtain rfl := Option.some.inj hk9
                      clear hk9 HKK
                      go_wp2
                      simp only [jumps]
                      go_ret3
                      exact ⟨_, rfl, Kd.R_nil _ _ _ _ _, belDrew HB6.out nq⟩
                  · have hkq : ¬ kindAt l0 p1 2 := fun h => hend h.1
                    have m1 : (l0.length ≤ p1) = True := eq_true (by omega)
                    go_quiet (fail)
                    have hk9 := HKK.out
                    rw [if_neg hkq] at hk9
                    obtain rfl := Option.some.inj hk9
                    clear hk9 HKK
                    go_wp2
                    simp only [jumps]
                    go_ret3
                    exact ⟨_, rfl, Kd.R_nil _ _ _ _ _, belDrew HB6.out nq⟩
                · have hq0 := (blk_cell HP.out 2).trans (show _ = some (Value.int .i64 1) from rfl)
                  have hq1 := (blk_cell HP.out 3).trans (show _ = some (Value.pointer (some ⟨tb, 1, none⟩)) from rfl)
                  have hjl : p1 < l0.length := (by obtain ⟨h, _⟩ := hk1; omega)
                  go_upto_region 14 with (first
                    | ((with_reducible refine gate_dst (N := 11) rfl ?_); (try (refine gate_guard (by rfl) ?_; dsimp only)); refine box_event ?hg (N := 11) ?hd (cs := #[.int .i64 0, .pointer none]) (t := 89) ?hr ?_; (case hd => rfl); (case hg => rfl); (case hr => first | (go_simp; done) | (go_simp; rfl)); intro qb hqb w5 hbox hb; have hz0 : w5.cell? ⟨qb, 0, none⟩ = some (.int .i64 0) := (blk_cell hbox 0).trans rfl; have hz1 : w5.cell? ⟨qb, 1, none⟩ = some (.pointer none) := (blk_cell hbox 1).trans rfl; have hzf0 := blk_frozen hbox 0; have hzf1 := blk_frozen hbox 1; have HBX := Lib.hid hbox; have HB5 := Lib.hid hb; have HQB := Lib.hid hqb; clear hbox hb hqb)
                    | (go_at_call 42; (with_reducible refine (skip_any (some ad) c0 l0 (p1 + 1) _ (by omega) _ hlen (Kd.C_below HR.out (below_set (below_set (HBE.out.trans (HB5.out.mono HBE.out.size)) (by rw [HQB.out]; exact HBE.out.size)) (by rw [HQB.out]; exact HBE.out.size))) HC.out (by omega)).mono ?_); rintro e w6 ⟨rfl, nd, rfl⟩; rw [HE2.out]))
                  obtain ⟨w6, hw6⟩ : ∃ w6, (((w5.setCell ⟨qb, 0, none⟩ (.int .i64 1)).setCell ⟨qb, 1, none⟩ (.pointer (some ⟨tb, 1, none⟩))).drewN nd) = w6 := ⟨_, rfl⟩
                  have hgW : W.heap.size ≤ qb := by rw [HQB.out]; exact HBE.out.size
                  have hqT : tb ≠ qb := by rw [HQB.out]; exact Nat.ne_of_lt (blk_lt HT.out)
                  have hqP : pb ≠ qb := by rw [HQB.out]; exact Nat.ne_of_lt (blk_lt HP.out)
                  have hQ6 : w6.heap[qb]? = some (.cells #[.int .i64 1, .pointer (some ⟨tb, 1, none⟩)] 89 (0, 0)) := by rw [← hw6]; exact blk_drewN (blk_put (blk_put HBX.out 0 _ rfl) 1 _ rfl) nd
                  have hT6 : w6.heap[tb]? = some (.cells #[.string x, .string y] 56 (0, 0)) := by rw [← hw6]; exact blk_drewN (blk_far (blk_far (blk_below HT.out HB5.out) hqT _) hqT _) nd
                  have hP6 : w6.heap[pb]? = some (.cells #[.int .i64 2, .pointer (some ⟨tb, 0, none⟩), .int .i64 1, .pointer (some ⟨tb, 1, none⟩), .int .i64 6, .pointer none] 89 (0, 0)) := by rw [← hw6]; exact blk_drewN (blk_far (blk_far (blk_below HP.out HB5.out) hqP _) hqP _) nd
                  have hK6 : Kd.R k56 56 w6 W.heap.size (fun k => k ≠ tb) (.slice Av out.length cv) out := by rw [← hw6]; exact Kd.R_drewN (Kd.R_mono (Kd.R_far (p := ⟨qb, 1, none⟩) (Kd.R_far (p := ⟨qb, 0, none⟩) (Kd.R_types (Kd.R_below HKR.out HB5.out) HBX.out (by decide)) (fun _ hk => hk.2) _) (fun _ hk => hk.2) _) (fun _ hk => hk.1)) nd
                  have hB6 : Below W.heap.size W w6 := by rw [← hw6]; exact belDrew (below_set (below_set (HBE.out.trans (HB5.out.mono HBE.out.size)) hgW) hgW) nd
                  rw [hw6]
                  clear hw6 hz0 hz1 hzf0 hzf1 HBX HB5 HQB hq0 hq1 HP HT HKR HBE
                  have hs0 := (blk_cell hQ6 0).trans (show _ = some (Value.int .i64 1) from rfl)
                  have hs1 := (blk_cell hQ6 1).trans (show _ = some (Value.pointer (some ⟨tb, 1, none⟩)) from rfl)
                  have ht0 := (blk_cell hT6 0).trans (show _ = some (Value.string x) from rfl)
                  have ht1 := (blk_cell hT6 1).trans (show _ = some (Value.string y) from rfl)
                  have htf0 := blk_frozen hT6 0
                  have htf1 := blk_frozen hT6 1
                  have HT6 := Lib.hid hT6
                  have HP6 := Lib.hid hP6
                  have HK6 := Lib.hid hK6
                  have HB6 := Lib.hid hB6
                  clear hQ6 hT6 hP6 hK6 hB6
                  by_cases hend : p2 < l0.length
                  · obtain ⟨ad2, e, hx0, hx1, _⟩ := at_T46 (Kd.C_below HR.out HB6.out) (p2 : Int) (by omega) (by omega)
                    obtain rfl := Option.some.inj e
                    rw [Int.toNat_natCast] at hx0 hx1
                    have m1 : (l0.length ≤ p2) = False := eq_false (by omega)
                    have m2 : (0 ≤ (p2 : Int)) = True := eq_true (by omega)
                    have m3 : ((p2 : Int) < (l0.length : Int)) = True := eq_true (by omega)
                    have hkk : (kindAt l0 p2 1) = ((rd_T46 l0 (p2 : Int)).f0 = 1) := by
                      have e1 : ∀ h : p2 < l0.length, l0[p2] = rd_T46 l0 (p2 : Int) := by intro h; unfold rd_T46; rw [List.getD_eq_getElem?_getD, Int.toNat_natCast, List.getElem?_eq_getElem h]; rfl
                      unfold kindAt
                      exact propext ⟨fun ⟨h, he⟩ => by rw [← e1 h]; exact he, fun h => ⟨hend, by rw [e1 hend]; exact h⟩⟩
                    by_cases hkd : (rd_T46 l0 (p2 : Int)).f0 = 1
                    · have hkq : kindAt l0 p2 1 := by rw [hkk]; exact hkd
                      rw [hkd] at hx0
                      clear hkk hkd
                      go_quiet (fail)
                      go_wp2
                      go_region
                      go_wp2
                      exact ⟨⟨x, txt l0 p2, ⟨rfl, rfl, rfl⟩, .inr (.inr (.inl ⟨rfl, rfl, hk1, htx1, hkq, rfl⟩)), blk_far (blk_drewN HP6.out _) hne _, blk_put (blk_drewN HT6.out _) 1 _ rfl, Kd.R_far (p := ⟨tb, 1, none⟩) (Kd.R_drewN HK6.out _) (fun _ hk => hk) _, below_set (belDrew HB6.out _) htb⟩, by show 3 - 2 < 3 - 1; decide⟩
                    · have hkq : ¬ kindAt l0 p2 1 := by rw [hkk]; exact hkd
                      obtain ⟨tk, htk⟩ : ∃ tk, (rd_T46 l0 (p2 : Int)).f0 = tk := ⟨_, rfl⟩
                      rw [htk] at hx0 hkd
                      have bk : (tk == 1) = false := beq_eq_false_iff_ne.2 hkd
                      have bk2 : (tk != 1) = true := bne_iff_ne.2 hkd
                      clear hkk htk hkd
                      go_quiet (fail)
                      have hk9 := HKK.out
                      rw [if_pos hk1, if_neg hkq] at hk9
                      obtain rfl := Option.some.inj hk9
                      clear hk9 HKK
                      go_wp2
                      simp only [jumps]
                      go_ret3
                      exact ⟨_, rfl, Kd.R_nil _ _ _ _ _, belDrew HB6.out nq⟩
                  · have hkq : ¬ kindAt l0 p2 1 := fun h => hend h.1
                    have m1 : (l0.length ≤ p2) = True := eq_true (by omega)
                    go_quiet (fail)
                    have hk9 := HKK.out
                    rw [if_pos hk1, if_neg hkq] at hk9
                    obtain rfl := Option.some.inj hk9
                    clear hk9 HKK
                    go_wp2
                    simp only [jumps]
                    go_ret3
                    exact ⟨_, rfl, Kd.R_nil _ _ _ _ _, belDrew HB6.out nq⟩
                · have hq0 := (blk_cell HP.out 4).trans (show _ = some (Value.int .i64 6) from rfl)
                  have hq1 := (blk_cell HP.out 5).trans (show _ = some (Value.pointer none) from rfl)
                  have hjl : p2 < l0.length := (by obtain ⟨h, _⟩ := hk2; omega)
                  go_upto_region 14 with (first
                    | ((with_reducible refine gate_dst (N := 11) rfl ?_); (try (refine gate_guard (by rfl) ?_; dsimp only)); refine box_event ?hg (N := 11) ?hd (cs := #[.int .i64 0, .pointer none]) (t := 89) ?hr ?_; (case hd => rfl); (case hg => rfl); (case hr => first | (go_simp; done) | (go_simp; rfl)); intro qb hqb w5 hbox hb; have hz0 : w5.cell? ⟨qb, 0, none⟩ = some (.int .i64 0) := (blk_cell hbox 0).trans rfl; have hz1 : w5.cell? ⟨qb, 1, none⟩ = some (.pointer none) := (blk_cell hbox 1).trans rfl; have hzf0 := blk_frozen hbox 0; have hzf1 := blk_frozen hbox 1; have HBX := Lib.hid hbox; have HB5 := Lib.hid hb; have HQB := Lib.hid hqb; clear hbox hb hqb)
                    | (go_at_call 42; (with_reducible refine (skip_any (some ad) c0 l0 (p2 + 1) _ (by omega) _ hlen (Kd.C_below HR.out (below_set (below_set (HBE.out.trans (HB5.out.mono HBE.out.size)) (by rw [HQB.out]; exact HBE.out.size)) (by rw [HQB.out]; exact HBE.out.size))) HC.out (by omega)).mono ?_); rintro e w6 ⟨rfl, nd, rfl⟩; rw [HE3.out]))
                  obtain ⟨w6, hw6⟩ : ∃ w6, (((w5.setCell ⟨qb, 0, none⟩ (.int .i64 6)).setCell ⟨qb, 1, none⟩ (.pointer none)).drewN nd) = w6 := ⟨_, rfl⟩
                  have hgW : W.heap.size ≤ qb := by rw [HQB.out]; exact HBE.out.size
                  have hqT : tb ≠ qb := by rw [HQB.out]; exact Nat.ne_of_lt (blk_lt HT.out)
                  have hqP : pb ≠ qb := by rw [HQB.out]; exact Nat.ne_of_lt (blk_lt HP.out)
                  have hQ6 : w6.heap[qb]? = some (.cells #[.int .i64 6, .pointer none] 89 (0, 0)) := by rw [← hw6]; exact blk_drewN (blk_put (blk_put HBX.out 0 _ rfl) 1 _ rfl) nd
                  have hT6 : w6.heap[tb]? = some (.cells #[.string x, .string y] 56 (0, 0)) := by rw [← hw6]; exact blk_drewN (blk_far (blk_far (blk_below HT.out HB5.out) hqT _) hqT _) nd
                  have hP6 : w6.heap[pb]? = some (.cells #[.int .i64 2, .pointer (some ⟨tb, 0, none⟩), .int .i64 1, .pointer (some ⟨tb, 1, none⟩), .int .i64 6, .pointer none] 89 (0, 0)) := by rw [← hw6]; exact blk_drewN (blk_far (blk_far (blk_below HP.out HB5.out) hqP _) hqP _) nd
                  have hK6 : Kd.R k56 56 w6 W.heap.size (fun k => k ≠ tb) (.slice Av out.length cv) out := by rw [← hw6]; exact Kd.R_drewN (Kd.R_mono (Kd.R_far (p := ⟨qb, 1, none⟩) (Kd.R_far (p := ⟨qb, 0, none⟩) (Kd.R_types (Kd.R_below HKR.out HB5.out) HBX.out (by decide)) (fun _ hk => hk.2) _) (fun _ hk => hk.2) _) (fun _ hk => hk.1)) nd
                  have hB6 : Below W.heap.size W w6 := by rw [← hw6]; exact belDrew (below_set (below_set (HBE.out.trans (HB5.out.mono HBE.out.size)) hgW) hgW) nd
                  rw [hw6]
                  clear hw6 hz0 hz1 hzf0 hzf1 HBX HB5 HQB hq0 hq1 HP HT HKR HBE
                  have hs0 := (blk_cell hQ6 0).trans (show _ = some (Value.int .i64 6) from rfl)
                  have hs1 := (blk_cell hQ6 1).trans (show _ = some (Value.pointer none) from rfl)
                  have ht0 := (blk_cell hT6 0).trans (show _ = some (Value.string x) from rfl)
                  have ht1 := (blk_cell hT6 1).trans (show _ = some (Value.string y) from rfl)
                  have htf0 := blk_frozen hT6 0
                  have htf1 := blk_frozen hT6 1
                  have HT6 := Lib.hid hT6
                  have HP6 := Lib.hid hP6
                  have HK6 := Lib.hid hK6
                  have HB6 := Lib.hid hB6
                  clear hQ6 hT6 hP6 hK6 hB6
                  by_cases hend : p3 < l0.length
                  · obtain ⟨ad2, e, hx0, hx1, _⟩ := at_T46 (Kd.C_below HR.out HB6.out) (p3 : Int) (by omega) (by omega)
                    obtain rfl := Option.some.inj e
                    rw [Int.toNat_natCast] at hx0 hx1
                    have m1 : (l0.length ≤ p3) = False := eq_false (by omega)
                    have m2 : (0 ≤ (p3 : Int)) = True := eq_true (by omega)
                    have m3 : ((p3 : Int) < (l0.length : Int)) = True := eq_true (by omega)
                    have hkk : (kindAt l0 p3 6) = ((rd_T46 l0 (p3 : Int)).f0 = 6) := by
                      have e1 : ∀ h : p3 < l0.length, l0[p3] = rd_T46 l0 (p3 : Int) := by intro h; unfold rd_T46; rw [List.getD_eq_getElem?_getD, Int.toNat_natCast, List.getElem?_eq_getElem h]; rfl
                      unfold kindAt
                      exact propext ⟨fun ⟨h, he⟩ => by rw [← e1 h]; exact he, fun h => ⟨hend, by rw [e1 hend]; exact h⟩⟩
                    by_cases hkd : (rd_T46 l0 (p3 : Int)).f0 = 6
                    · have hkq : kindAt l0 p3 6 := by rw [hkk]; exact hkd
                      rw [hkd] at hx0
                      clear hkk hkd
                      go_quiet (fail)
                      go_wp2
                      refine ⟨⟨x, y, ⟨rfl, rfl, rfl⟩, .inr (.inr (.inr ⟨rfl, rfl, hk1, htx1, hk2, hy2, hkq⟩)), blk_drewN HP6.out _, blk_drewN HT6.out _, Kd.R_drewN HK6.out nq, belDrew HB6.out nq⟩, by show 3 - 3 < 3 - 2; decide⟩
                    · have hkq : ¬ kindAt l0 p3 6 := by rw [hkk]; exact hkd
                      obtain ⟨tk, htk⟩ : ∃ tk, (rd_T46 l0 (p3 : Int)).f0 = tk := ⟨_, rfl⟩
                      rw [htk] at hx0 hkd
                      have bk : (tk == 6) = false := beq_eq_false_iff_ne.2 hkd
                      have bk2 : (tk != 6) = true := bne_iff_ne.2 hkd
                      clear hkk htk hkd
                      go_quiet (fail)
                      have hk9 := HKK.out
                      rw [if_pos hk1, if_pos hk2, if_neg hkq] at hk9
                      obtain rfl := Option.some.inj hk9
                      clear hk9 HKK
                      go_wp2
                      simp only [jumps]
                      go_ret3
                      exact ⟨_, rfl, Kd.R_nil _ _ _ _ _, belDrew HB6.out nq⟩
                  · have hkq : ¬ kindAt l0 p3 6 := fun h => hend h.1
                    have m1 : (l0.length ≤ p3) = True := eq_true (by omega)
                    go_quiet (fail)
                    have hk9 := HKK.out
                    rw [if_pos hk1, if_pos hk2, if_neg hkq] at hk9
                    obtain rfl := Option.some.inj hk9
                    clear hk9 HKK
                    go_wp2
                    simp only [jumps]
                    go_ret3
                    exact ⟨_, rfl, Kd.R_nil _ _ _ _ _, belDrew HB6.out nq⟩
                · have ht0 := (blk_cell HT.out 0).trans (show _ = some (Value.string x) from rfl)
                  have ht1 := (blk_cell HT.out 1).trans (show _ = some (Value.string y) from rfl)
                  have hl2 := HL2.out (by obtain ⟨h, _⟩ := hk1; omega)
                  have hl3 := HL3.out (by obtain ⟨h, _⟩ := hk2; omega)
                  have hl4 : p3 < l0.length := hk3.1
                  have hl5 := skp_le l0 (p3 + 1) (by omega)
                  have hk9 := HKK.out
                  rw [if_pos hk1, if_pos hk2, if_pos hk3, ← htx1, ← hy2] at hk9
                  have HK9 := Lib.hid hk9
                  have htl := blk_lt HT.out
                  clear hk9 HKK HL2 HL3 htx1 hy2
                  go_wp2_with (first
                    | (at_builtin; refine Kd.R_append k56 (w0 := W) W.heap.size rfl (.tmp 81) (.tmp 83) 31 56 (.agg #[.string ⟨#[]⟩, .string ⟨#[]⟩]) 32 rfl Tryd.underlying31 info56 rfl (by decide) (by omega) (.slice Av out.length cv) out ⟨x, y⟩ [.string x, .string y] (fun k => k ≠ tb) (fun _ => False) rfl (by first | rfl | (go_simp; done) | (go_simp; rfl)) ?aP (fun _ hk => hk.elim) ?aF ?aO ?aB ?aS ?aL ?_; (case aP => exact k56_mkM _ _ _ _); (case aF => exact (fun k hk => by rintro rfl; omega)); (case aO => ((with_reducible repeat (first | apply Kd.R_alloc | apply Kd.R_drewN | apply Kd.R_drew)); exact HKR.out)); (case aB => first | exact HBE.out | exact HBE.out.alloc HBE.out.size _); (case aS => first | exact HBE.out.size | (have := HBE.out.size; simp; omega)); (case aL => omega); intro v9 w9 ho hb hg hat; obtain ⟨A9, c9, rfl⟩ := Kd.R_slice ho; have ht9 := blk_grown (g := tb) (o := .cells #[.string x, .string y] 56 (0, 0)) (by first | exact HT.out | exact blk_alloc HT.out _) hg (Kd.R_away HKR.out (fun _ hk => hk)); have HT9 := Lib.hid ht9; have HO := Lib.hid ho; have HB9 := Lib.hid hb; clear ho hb hg hat ht9)
                    | (go_at_call 42; (with_reducible refine (skip_any (some ad) c0 l0 (p3 + 1) _ (by omega) w9 hlen (Kd.C_below HR.out HB9.out) HC.out (by omega)).mono ?_); rintro e w10 ⟨rfl, nd, rfl⟩))
                  refine wp_goto ?_
                  have ho2 : Kd.R k56 56 w9 W.heap.size (fun k => k ≠ tb) (.slice A9 (out.length + 1) c9) (out ++ [⟨x, y⟩]) := by have h := HO.out; rw [List.length_append] at h; exact h
                  exact HJ.out (skp l0 (p3 + 1)) (out ++ [⟨x, y⟩]) A9 c9 x y (fun i => List.getD [undef, _, _, _, undef, undef, undef, undef, undef, undef, _, _, _, _, _, _, _, _, _, _, _, _, _, _, _, _, _, _, _, _, _, _, _, _, _, _, _, _, _, _, _, _, _, _, _, _, _, _, _, _, _, _, _, _, _, _, _, _, _, _, _, _, _, _, _, _, _, _, _, _, _, _, _, _, _, _, _, _, _, _, _, _, _, _, _, _, _, _, _] i undef) _ (out.length + 1) (by rw [List.length_append]; rfl) (by omega) (by omega) (by rw [List.length_append]; simp; omega) (blk_drewN HT9.out nd) (Kd.R_drewN HO.out nd) (belDrew HB9.out nd) ⟨k, HK9.out⟩
          · rw [if_neg (fun h => k5 (by rw [← ht2]; exact h.2))] at hk
            obtain rfl := Option.some.inj hk
            clear hk ht ht2
            have b5 : (t == 5) = false := beq_eq_false_iff_ne.2 k5
            go_wp2
            simp only [jumps]
            go_ret3
            exact ⟨_, rfl, Kd.R_mono HKR.out (fun _ _ => trivial), HBE.out⟩
        · rw [if_neg (fun h => hlt h.1)] at hk
          obtain rfl := Option.some.inj hk
          clear hk
          have c1 : (l0.length ≤ i) = True := eq_true (by omega)
          go_wp2
          simp only [jumps]
          go_ret3
          exact ⟨_, rfl, Kd.R_mono HKR.out (fun _ _ => trivial), HBE.out⟩

set_option maxHeartbeats 1000000 in
set_option maxRecDepth 100000 in
theorem Tags_range (A0 : Option Addr) (c0 n0 : Nat) (a1 : Int) (W : World) (ha : a1 < 0 ∨ (n0 : Int) < a1) :
    Calls Tryd.prog 11 #[.slice A0 n0 c0, .int .i64 a1] W fun e W' => ∃ v0_ : Value, e = .returned (.tuple #[v0_, .int .i64 0, .int .i64 3]) ∧ Kd.R k56 56 W' W.heap.size (fun _ => True) v0_ [] ∧ Below W.heap.size W W' := by
  by_cases hneg : a1 < 0
  · have c1 : decide (a1 < 0) = true := decide_eq_true hneg
    clear ha hneg
    go_enter Tryd.func11, Tryd.ntmps11
    go_wp2
    refine wp_scope_labels (fun _ _ _ => False) (fun _ _ _ => 0) (fun _ _ _ h => h.elim) ?_ (fun _ _ _ h => h.elim)
    intro _
    go_wp2
    simp only [jumps]
    go_ret3
    exact ⟨_, rfl, Kd.R_nil _ _ _ _ _, Below.refl _ _⟩
  · have c1 : decide (a1 < 0) = false := decide_eq_false hneg
    have c2 : decide ((n0 : Int) < a1) = true := decide_eq_true (by omega)
    clear ha hneg
    go_enter Tryd.func11, Tryd.ntmps11
    go_wp2
    refine wp_scope_labels (fun _ _ _ => False) (fun _ _ _ => 0) (fun _ _ _ h => h.elim) ?_ (fun _ _ _ h => h.elim)
    intro _
    go_wp2
    simp only [jumps]
    go_ret3
    exact ⟨_, rfl, Kd.R_nil _ _ _ _ _, Below.refl _ _⟩

theorem Tags_calls (A0 : Option Addr) (c0 : Nat) (l0 : List S46) (a1 : Int) (r1 : List S56) (r2 r3 : Int) (w : World) (hr0 : Kd.C k46 w A0 l0.length l0) (hc0 : l0.length ≤ c0) (h : tagsF l0 a1 = some (r1, r2, r3)) :
    Calls Tryd.prog 11 #[.slice A0 l0.length c0, .int .i64 a1] w fun e w' => ∃ v0_ : Value, e = .returned (.tuple #[v0_, .int .i64 r2, .int .i64 r3]) ∧ Kd.R k56 56 w' w.heap.size (fun _ => True) v0_ r1 ∧ Below w.heap.size w w' := by
  unfold tagsF at h
  split at h
  · rename_i ha
    have h' := Option.some.inj h
    simp only [Prod.mk.injEq] at h'
    obtain ⟨rfl, rfl, rfl⟩ := h'
    exact Tags_range A0 c0 l0.length a1 w ha
  · rename_i ha
    split at h
    · rename_i hb
      exact Tags_any A0 c0 l0 a1 w hb hr0 hc0 (r1, r2, r3) (by omega) (by omega) ⟨_, h⟩
    · cases h
end Go.Proofs.YtlpoglkddknedaaDoor.H

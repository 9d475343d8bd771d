/- movetext.Parse: the moves of a list of tokens, as parseF tells them. Conditions: parseF answers; the texts' lengths are an int's; the variables hold what their initialisers lay. -/
import Derived.Test.YtlpoglkddknedaaDoorHg
import Derived.Test.YtlpoglkddknedaaDoorHm
namespace Go.Proofs.YtlpoglkddknedaaDoor.H
open Go.RowKit Go.Proofs.YtlpoglkddknedaaDoor.T Go.Proofs.YtlpoglkddknedaaDoorW.PrintWords Go.Proofs.YtlpoglkddknedaaDoorW.PrintLast
set_option linter.unusedVariables false
set_option linter.unusedSimpArgs false

/-- The result's cell and the moves' cell, while the tokens are read. -/
structure PJ (W : World) (B rb bb : Nat) (ms : List ByteArray) (w' : World) : Prop where
  geR : B ≤ rb
  geB : B ≤ bb
  ne : rb ≠ bb
  R : w'.heap[rb]? = some (.cells #[.slice none 0 0, .int .i64 0] 27 (0, 0))
  K : ∃ v, w'.heap[bb]? = some (.cells #[v, .int .i64 0] 27 (0, 0)) ∧ Kd.R Kd.string 9 w' B (fun _ => True) v ms
  bel : Below B W w'
theorem PJ.below {W : World} {B rb bb : Nat} {ms : List ByteArray} {w' w'' : World} (h : PJ W B rb bb ms w') (hBW : B ≤ W.heap.size) (hb : Below w'.heap.size w' w'') : PJ W B rb bb ms w'' := by
  obtain ⟨h1, h2, h3, h4, ⟨v, h5, h6⟩, h7⟩ := h
  exact ⟨h1, h2, h3, blk_below h4 hb, ⟨v, blk_below h5 hb, Kd.R_below h6 hb⟩, h7.trans (hb.mono (Nat.le_trans hBW h7.size))⟩
theorem PJ.set {W : World} {B rb bb : Nat} {ms : List ByteArray} {w' : World} (h : PJ W B rb bb ms w') {g j : Nat} {cs : Array Value} (hg : w'.heap[g]? = some (.cells cs 46 (0, 0))) (h1 : rb ≠ g) (h2 : bb ≠ g) (h3 : W.heap.size ≤ g) (hB : B = W.heap.size) (x : Value) : PJ W B rb bb ms (w'.setCell ⟨g, j, none⟩ x) := by
  subst hB
  obtain ⟨a1, a2, a3, a4, ⟨v, a5, a6⟩, a7⟩ := h
  exact ⟨a1, a2, a3, blk_far a4 h1 _, ⟨v, blk_far a5 h2 _, Kd.R_mono (Kd.R_far (p := ⟨g, j, none⟩) (Kd.R_types a6 hg (by decide)) (fun _ hk => hk.2) _) (fun _ _ => trivial)⟩, below_set a7 h3⟩
theorem resF_cases (s : ByteArray) : resF s = -1 ∨ resF s = 0 ∨ resF s = 1 ∨ resF s = 2 ∨ resF s = 3 := by
  unfold resF
  repeat' split
  all_goals simp
theorem belDrew {B : Nat} {a w : World} (h : Below B a w) (n : Nat) : Below B a (w.drewN n) := ⟨h.os, h.tape, h.output, h.size, h.block⟩
/-- The token in hand, in a block of its own. -/
def TB (w' : World) (gb : Nat) (t : S46) : Prop := w'.heap[gb]? = some (.cells #[.int .i64 t.f0, .string t.f1, .int .i64 t.f2] 46 (0, 0))

theorem var_some (A0 : Option Addr) (c0 : Nat) (l0 : List S46) (i n : Nat) (W : World) (hi : i < l0.length) (hlen : l0.length ≤ 140737488351232) (hr0 : Kd.C k46 W A0 l0.length l0) (h : varS (l0.drop (i + 1)) 1 = some n) :
    Calls Tryd.prog 39 #[.slice A0 l0.length c0, .int .i64 ((i : Int) + 1)] W fun e w' => e = .returned (.tuple #[.int .i64 ((i + 1 + n : Nat) : Int), .bool true]) ∧ Drawn0 W w' := by
  have h1 := variation_any A0 c0 l0 ((i : Int) + 1) W (by omega) (by omega) hlen hr0
  rw [show ((i : Int) + 1).toNat = i + 1 by omega, h] at h1
  rw [show i + 1 + n = n + (i + 1) by omega]
  exact h1
theorem var_none (A0 : Option Addr) (c0 : Nat) (l0 : List S46) (i : Nat) (W : World) (hi : i < l0.length) (hlen : l0.length ≤ 140737488351232) (hr0 : Kd.C k46 W A0 l0.length l0) (h : varS (l0.drop (i + 1)) 1 = none) :
    Calls Tryd.prog 39 #[.slice A0 l0.length c0, .int .i64 ((i : Int) + 1)] W fun e w' => e = .returned (.tuple #[.int .i64 0, .bool false]) ∧ Drawn0 W w' := by
  have h1 := variation_any A0 c0 l0 ((i : Int) + 1) W (by omega) (by omega) hlen hr0
  rw [show ((i : Int) + 1).toNat = i + 1 by omega, h] at h1
  exact h1
theorem lead_step (k : Int) (l : List S46) (j : Nat) (h : j < l.length) : lead k (l.drop j) = if (rd_T46 l (j : Int)).f0 = k then lead k (l.drop (j + 1)) + 1 else 0 := by
  have h1 := rd46 l (j : Int) (by omega) (by omega)
  rw [Int.toNat_natCast, show ((j : Int) + 1).toNat = j + 1 by omega] at h1
  rw [h1, lead]

def parJ (A0 : Option Addr) (c0 : Nat) (l0 : List S46) (rb : Nat) (R : List ByteArray × Int × Int × Int) (W : World) (l : Nat) (a' : Act) (w' : World) : Prop := match l with
  | 0 => ∃ (bb i : Nat) (ms : List ByteArray) (u : Nat → Value), a' = { tmps := (.slice A0 l0.length c0 :: u 1 :: u 2 :: u 3 :: .pointer (some ⟨rb, 0, none⟩) :: .int .i64 0 :: .int .i64 0 :: .pointer (some ⟨bb, 0, none⟩) :: u 8 :: .int .i64 (i : Int) :: u 10 :: u 11 :: u 12 :: u 13 :: u 14 :: u 15 :: u 16 :: u 17 :: u 18 :: u 19 :: u 20 :: u 21 :: u 22 :: u 23 :: u 24 :: u 25 :: u 26 :: u 27 :: u 28 :: u 29 :: u 30 :: u 31 :: u 32 :: u 33 :: u 34 :: u 35 :: u 36 :: u 37 :: u 38 :: u 39 :: u 40 :: u 41 :: u 42 :: u 43 :: u 44 :: u 45 :: u 46 :: u 47 :: u 48 :: u 49 :: u 50 :: u 51 :: u 52 :: u 53 :: u 54 :: u 55 :: u 56 :: u 57 :: u 58 :: u 59 :: u 60 :: u 61 :: u 62 :: u 63 :: u 64 :: u 65 :: u 66 :: u 67 :: u 68 :: u 69 :: u 70 :: u 71 :: u 72 :: u 73 :: u 74 :: u 75 :: u 76 :: u 77 :: u 78 :: u 79 :: u 80 :: u 81 :: u 82 :: u 83 :: u 84 :: u 85 :: u 86 :: u 87 :: u 88 :: u 89 :: u 90 :: u 91 :: u 92 :: u 93 :: u 94 :: u 95 :: u 96 :: u 97 :: u 98 :: u 99 :: u 100 :: u 101 :: []).toArray, defers := [] } ∧ i ≤ l0.length ∧ ms.length ≤ 300 ∧ PJ W W.heap.size rb bb ms w' ∧ ∃ k, parseN k l0 i ms = some R
  | _ => False
def parM (n : Nat) (a' : Act) (w' : World) : Nat := n + 1 - (Go.RowKit.intOf (a'.tmps.getD 9 undef)).toNat

set_option maxHeartbeats 4000000 in
set_option maxRecDepth 100000 in
theorem Parse_any (A0 : Option Addr) (c0 : Nat) (l0 : List S46) (a1 : Int) (W : World) (hlen : l0.length ≤ 140737488351232) (hsz : ∀ t ∈ l0, t.f1.size ≤ 9223372036854775807) (hr0 : Kd.C k46 W A0 l0.length l0) (hg : Laid W) (R : List ByteArray × Int × Int × Int) (ha0 : 0 ≤ a1) (ha1 : a1 ≤ l0.length) (hR : ∃ k, parseN k l0 a1.toNat [] = some R) :
    Calls Tryd.prog 10 #[.slice A0 l0.length c0, .int .i64 a1] W fun e w' => ∃ v0_ : Value, e = .returned (.tuple #[.agg #[v0_, .int .i64 R.2.1], .int .i64 R.2.2.1, .int .i64 R.2.2.2]) ∧ Kd.R Kd.string 9 w' W.heap.size (fun _ => True) v0_ R.1 ∧ Below W.heap.size W w' := by
  obtain ⟨n1, rfl⟩ := Int.eq_ofNat_of_zero_le ha0
  rw [Int.toNat_natCast] at hR
  have HR := Lib.hid hr0
  have HG := Lib.hid hg
  have HS := Lib.hid hsz
  have HN := Lib.hid hR
  clear hr0 hg hsz hR
  have c1 : decide ((n1 : Int) < 0) = false := decide_eq_false (by omega)
  have c2 : decide ((l0.length : Int) < (n1 : Int)) = false := decide_eq_false (by omega)
  have hB0 := Lib.hid (Below.refl W.heap.size W)
  go_enter Tryd.func10, Tryd.ntmps10
  go_wp2_with (first
    | ((with_reducible refine gate_dst (N := 4) rfl ?_); (try (refine gate_guard (by rfl) ?_; dsimp only)); refine box_event ?hg (N := 4) ?hd (cs := #[.slice none 0 0, .int .i64 0]) (t := 27) ?hr ?_; (case hd => rfl); (case hg => rfl); (case hr => first | (go_simp; done) | (go_simp; rfl)); intro rb hrb w4 hbox hb; have HBX := Lib.hid hbox; have HB4 := Lib.hid hb; have HRB := Lib.hid hrb; clear hbox hb hrb)
    | ((with_reducible refine gate_dst (N := 7) rfl ?_); (try (refine gate_guard (by rfl) ?_; dsimp only)); refine box_event ?hg (N := 7) ?hd (cs := #[.slice none 0 0, .int .i64 0]) (t := 27) ?hr ?_; (case hd => rfl); (case hg => rfl); (case hr => first | (go_simp; done) | (go_simp; rfl)); intro bb hbb w7 hbox hb; have HBX7 := Lib.hid hbox; have HB7 := Lib.hid hb; have HBB := Lib.hid hbb; clear hbox hb hbb))
  refine wp_scope_labels (parJ A0 c0 l0 rb R W) (fun _ a' w' => parM l0.length a' w') ?_ ?_ ?_
  · intro l a' w' h
    match l, h with
    | 0, _ => rfl
  · intro h0
    have H0 := Lib.hid h0
    clear h0
    go_wp2_with (first
      | ((with_reducible refine gate_dst (N := 7) rfl ?_); (try (refine gate_guard (by rfl) ?_; dsimp only)); refine box_event ?hg (N := 7) ?hd (cs := #[.slice none 0 0, .int .i64 0]) (t := 27) ?hr ?_; (case hd => rfl); (case hg => rfl); (case hr => first | (go_simp; done) | (go_simp; rfl)); intro bb hbb w7 hbox hb; have HBX7 := Lib.hid hbox; have HB7 := Lib.hid hb; have HBB := Lib.hid hbb; clear hbox hb hbb))
    refine wp_label ?_
    rename_i K hK
    refine hK _ _ ?_
    have hlt4 := blk_lt HBX.out
    refine H0.out _ _ ⟨bb, n1, [], (fun i => List.getD [undef, _, _, _, undef, undef, undef, undef, _, undef, _, _, _, _, _, _, _, _, _, _, _, _, _, _, _, _, _, _, _, _, _, _, _, _, _, _, _, _, _, _, _, _, _, _, _, _, _, _, _, _, _, _, _, _, _, _, _, _, _, _, _, _, _, _, _, _, _, _, _, _, _, _, _, _, _, _, _, _, _, _, _, _, _, _, _, _, _, _, _, _, _, _, _, _, _, _, _, _, _, _, _, _] i undef), rfl, by omega, by decide, ⟨?_, ?_, ?_, ?_, ⟨_, HBX7.out, Kd.R_nil _ _ _ _ _⟩, ?_⟩, HN.out⟩
    · rw [HRB.out]; exact Nat.le_refl _
    · rw [HBB.out]; exact HB4.out.size
    · rw [HBB.out]; exact Nat.ne_of_lt hlt4
    · exact blk_below HBX.out HB7.out
    · exact HB4.out.trans (HB7.out.mono HB4.out.size)
  · intro l a' w' h
    match l, h with
    | 0, h' =>
      clear h HN HBX HB4 HRB hB0
      obtain ⟨bb, i, ms, u, rfl, hi, hms, hpj, k, hk⟩ := h'
      simp only [behind, findLabel, seqTail, beq_self_eq_true, ↓reduceIte, Option.getD_some, Nat.reduceBEq, Bool.false_eq_true]
      have HP := Lib.hid hpj
      clear hpj
      cases k with
      | zero => simp [parseN] at hk
      | succ k =>
        rw [parseN] at hk
        by_cases hend : l0.length ≤ i
        · have c1 : decide ((l0.length : Int) ≤ (i : Int)) = true := decide_eq_true (by omega)
          rw [dif_neg (by omega)] at hk
          obtain rfl := Option.some.inj hk
          clear hk
          have hc0 := (blk_cell HP.out.R 0).trans (show _ = some (Value.slice none 0 0) from rfl)
          have hc1 := (blk_cell HP.out.R 1).trans (show _ = some (Value.int .i64 0) from rfl)
          have hf0 := blk_frozen HP.out.R 0
          have hf1 := blk_frozen HP.out.R 1
          go_wp2
          simp only [jumps]
          refine bodyPost_ret (results_ctt rfl _ _ rb 27 #[.slice none 0 0, .int .i64 0] (0, 0) _ rfl (blk_put (blk_put HP.out.R 0 _ rfl) 1 _ rfl) Tryd.underlying27 rfl (by kernel_rfl)) rfl ?_
          exact ⟨_, rfl, Kd.R_nil _ _ _ _ _, below_set (below_set HP.out.bel HP.out.geR) HP.out.geR⟩
        · have hlt : i < l0.length := by omega
          rw [dif_pos hlt] at hk
          obtain ⟨t, ht⟩ : ∃ t, rd_T46 l0 (i : Int) = t := ⟨_, rfl⟩
          have ht2 : l0[i] = t := by rw [← ht]; unfold rd_T46; rw [List.getD_eq_getElem?_getD, Int.toNat_natCast, List.getElem?_eq_getElem hlt]; rfl
          have hts : t.f1.size ≤ 9223372036854775807 := HS.out t (ht2 ▸ List.getElem_mem hlt)
          rw [ht2] at hk
          have c1 : decide ((l0.length : Int) ≤ (i : Int)) = false := decide_eq_false (by omega)
          obtain ⟨ad, e, hx0, hx1, hx2⟩ := at_T46 (Kd.C_below HR.out HP.out.bel) (i : Int) (by omega) (by omega)
          subst e
          rw [ht, Int.toNat_natCast] at hx0 hx1 hx2
          have p1 : (0 ≤ (i : Int)) = True := eq_true (by omega)
          have p2 : ((i : Int) < (l0.length : Int)) = True := eq_true (by omega)
          have HK := Lib.hid hk
          clear hk ht ht2
          go_upto_region 10 with (first
            | ((with_reducible refine gate_dst (N := 10) rfl ?_); (try (refine gate_guard (by rfl) ?_; dsimp only)); refine box_event ?hg (N := 10) ?hd (cs := #[.int .i64 0, .string (⟨#[]⟩ : ByteArray), .int .i64 0]) (t := 46) ?hr ?_; (case hd => rfl); (case hg => rfl); (case hr => first | (go_simp; done) | (go_simp; rfl)); intro gb hgb w5 hbox hb; have hz0 : w5.cell? ⟨gb, 0, none⟩ = some (.int .i64 0) := (blk_cell hbox 0).trans rfl; have hz1 : w5.cell? ⟨gb, 1, none⟩ = some (.string (⟨#[]⟩ : ByteArray)) := (blk_cell hbox 1).trans rfl; have hz2 : w5.cell? ⟨gb, 2, none⟩ = some (.int .i64 0) := (blk_cell hbox 2).trans rfl; have hzf0 := blk_frozen hbox 0; have hzf1 := blk_frozen hbox 1; have hzf2 := blk_frozen hbox 2; have HBX := Lib.hid hbox; have HB5 := Lib.hid hb; have HGB := Lib.hid hgb; clear hbox hb hgb))
          obtain ⟨w6, hw6⟩ : ∃ w6, (((w5.setCell ⟨gb, 0, none⟩ (.int .i64 t.f0)).setCell ⟨gb, 1, none⟩ (.string t.f1)).setCell ⟨gb, 2, none⟩ (.int .i64 t.f2)) = w6 := ⟨_, rfl⟩
          have hB5 := HP.out.below (Nat.le_refl _) HB5.out
          have hgR : rb ≠ gb := by rw [HGB.out]; exact Nat.ne_of_lt (blk_lt HP.out.R)
          have hgB : bb ≠ gb := by rw [HGB.out]; obtain ⟨v, hv, _⟩ := HP.out.K; exact Nat.ne_of_lt (blk_lt hv)
          have hgW : W.heap.size ≤ gb := by rw [HGB.out]; exact HP.out.bel.size
          have hb1 := blk_put HBX.out 0 (.int .i64 t.f0) rfl
          have hb2 := blk_put hb1 1 (.string t.f1) rfl
          have hb3 := blk_put hb2 2 (.int .i64 t.f2) rfl
          have hP6 : PJ W W.heap.size rb bb ms w6 := by
            rw [← hw6]
            exact ((hB5.set (j := 0) HBX.out hgR hgB hgW rfl (.int .i64 t.f0)).set (j := 1) hb1 hgR hgB hgW rfl (.string t.f1)).set (j := 2) hb2 hgR hgB hgW rfl (.int .i64 t.f2)
          rw [hw6] at hb3
          rw [hw6]
          have HT := Lib.hid (show TB w6 gb t from hb3)
          clear hw6 hB5 hgR hgB hgW hb1 hb2 hb3 hz0 hz1 hz2 hzf0 hzf1 hzf2 hx0 hx1 hx2 HBX HB5 HGB c1
          have hb6 : Below W.heap.size W w6 := hP6.bel
          have HOLD := HP
          clear HP
          have HP := Lib.hid hP6
          clear hP6 HOLD hb6
          have hjump : ∀ (i' : Nat) (ms' : List ByteArray) (u' : Nat → Value) (w'' : World), i < i' → i' ≤ l0.length → ms'.length ≤ 300 → PJ W W.heap.size rb bb ms' w'' → (∃ k, parseN k l0 i' ms' = some R) → parJ (some ad) c0 l0 rb R W 0 { tmps := (.slice (some ad) l0.length c0 :: u' 1 :: u' 2 :: u' 3 :: .pointer (some ⟨rb, 0, none⟩) :: .int .i64 0 :: .int .i64 0 :: .pointer (some ⟨bb, 0, none⟩) :: u' 8 :: .int .i64 (i' : Int) :: u' 10 :: u' 11 :: u' 12 :: u' 13 :: u' 14 :: u' 15 :: u' 16 :: u' 17 :: u' 18 :: u' 19 :: u' 20 :: u' 21 :: u' 22 :: u' 23 :: u' 24 :: u' 25 :: u' 26 :: u' 27 :: u' 28 :: u' 29 :: u' 30 :: u' 31 :: u' 32 :: u' 33 :: u' 34 :: u' 35 :: u' 36 :: u' 37 :: u' 38 :: u' 39 :: u' 40 :: u' 41 :: u' 42 :: u' 43 :: u' 44 :: u' 45 :: u' 46 :: u' 47 :: u' 48 :: u' 49 :: u' 50 :: u' 51 :: u' 52 :: u' 53 :: u' 54 :: u' 55 :: u' 56 :: u' 57 :: u' 58 :: u' 59 :: u' 60 :: u' 61 :: u' 62 :: u' 63 :: u' 64 :: u' 65 :: u' 66 :: u' 67 :: u' 68 :: u' 69 :: u' 70 :: u' 71 :: u' 72 :: u' 73 :: u' 74 :: u' 75 :: u' 76 :: u' 77 :: u' 78 :: u' 79 :: u' 80 :: u' 81 :: u' 82 :: u' 83 :: u' 84 :: u' 85 :: u' 86 :: u' 87 :: u' 88 :: u' 89 :: u' 90 :: u' 91 :: u' 92 :: u' 93 :: u' 94 :: u' 95 :: u' 96 :: u' 97 :: u' 98 :: u' 99 :: u' 100 :: u' 101 :: []).toArray, defers := [] } w'' ∧ parM l0.length { tmps := (.slice (some ad) l0.length c0 :: u' 1 :: u' 2 :: u' 3 :: .pointer (some ⟨rb, 0, none⟩) :: .int .i64 0 :: .int .i64 0 :: .pointer (some ⟨bb, 0, none⟩) :: u' 8 :: .int .i64 (i' : Int) :: u' 10 :: u' 11 :: u' 12 :: u' 13 :: u' 14 :: u' 15 :: u' 16 :: u' 17 :: u' 18 :: u' 19 :: u' 20 :: u' 21 :: u' 22 :: u' 23 :: u' 24 :: u' 25 :: u' 26 :: u' 27 :: u' 28 :: u' 29 :: u' 30 :: u' 31 :: u' 32 :: u' 33 :: u' 34 :: u' 35 :: u' 36 :: u' 37 :: u' 38 :: u' 39 :: u' 40 :: u' 41 :: u' 42 :: u' 43 :: u' 44 :: u' 45 :: u' 46 :: u' 47 :: u' 48 :: u' 49 :: u' 50 :: u' 51 :: u' 52 :: u' 53 :: u' 54 :: u' 55 :: u' 56 :: u' 57 :: u' 58 :: u' 59 :: u' 60 :: u' 61 :: u' 62 :: u' 63 :: u' 64 :: u' 65 :: u' 66 :: u' 67 :: u' 68 :: u' 69 :: u' 70 :: u' 71 :: u' 72 :: u' 73 :: u' 74 :: u' 75 :: u' 76 :: u' 77 :: u' 78 :: u' 79 :: u' 80 :: u' 81 :: u' 82 :: u' 83 :: u' 84 :: u' 85 :: u' 86 :: u' 87 :: u' 88 :: u' 89 :: u' 90 :: u' 91 :: u' 92 :: u' 93 :: u' 94 :: u' 95 :: u' 96 :: u' 97 :: u' 98 :: u' 99 :: u' 100 :: u' 101 :: []).toArray, defers := [] } w'' < parM l0.length { tmps := (.slice (some ad) l0.length c0 :: u 1 :: u 2 :: u 3 :: .pointer (some ⟨rb, 0, none⟩) :: .int .i64 0 :: .int .i64 0 :: .pointer (some ⟨bb, 0, none⟩) :: u 8 :: .int .i64 (i : Int) :: u 10 :: u 11 :: u 12 :: u 13 :: u 14 :: u 15 :: u 16 :: u 17 :: u 18 :: u 19 :: u 20 :: u 21 :: u 22 :: u 23 :: u 24 :: u 25 :: u 26 :: u 27 :: u 28 :: u 29 :: u 30 :: u 31 :: u 32 :: u 33 :: u 34 :: u 35 :: u 36 :: u 37 :: u 38 :: u 39 :: u 40 :: u 41 :: u 42 :: u 43 :: u 44 :: u 45 :: u 46 :: u 47 :: u 48 :: u 49 :: u 50 :: u 51 :: u 52 :: u 53 :: u 54 :: u 55 :: u 56 :: u 57 :: u 58 :: u 59 :: u 60 :: u 61 :: u 62 :: u 63 :: u 64 :: u 65 :: u 66 :: u 67 :: u 68 :: u 69 :: u 70 :: u 71 :: u 72 :: u 73 :: u 74 :: u 75 :: u 76 :: u 77 :: u 78 :: u 79 :: u 80 :: u 81 :: u 82 :: u 83 :: u 84 :: u 85 :: u 86 :: u 87 :: u 88 :: u 89 :: u 90 :: u 91 :: u 92 :: u 93 :: u 94 :: u 95 :: u 96 :: u 97 :: u 98 :: u 99 :: u 100 :: u 101 :: []).toArray, defers := [] } w' := by
            intro i' ms' u' w'' h1 h2 h3 h4 h5
            refine ⟨⟨bb, i', ms', u', rfl, h2, h3, h4, h5⟩, ?_⟩
            show l0.length + 1 - ((i' : Nat) : Int).toNat < l0.length + 1 - ((i : Nat) : Int).toNat
            rw [Int.toNat_natCast, Int.toNat_natCast]
            omega
          have HJ := Lib.hid hjump
          clear hjump
          obtain ⟨t0, t1, t2⟩ := t
          dsimp only at HK hts
          have hy0 : w6.cell? ⟨gb, 0, none⟩ = some (.int .i64 t0) := (blk_cell (show w6.heap[gb]? = some (.cells #[.int .i64 t0, .string t1, .int .i64 t2] 46 (0, 0)) from HT.out) 0).trans rfl
          have hy1 : w6.cell? ⟨gb, 1, none⟩ = some (.string t1) := (blk_cell (show w6.heap[gb]? = some (.cells #[.int .i64 t0, .string t1, .int .i64 t2] 46 (0, 0)) from HT.out) 1).trans rfl
          by_cases kA : t0 = 10 ∨ t0 = 9 ∨ t0 = 11
          · have hk2 := HK.out
            rw [if_pos kA] at hk2
            have HK2 := Lib.hid hk2
            clear HK hk2
            rcases kA with rfl | rfl | rfl
            all_goals
              go_wp2
              refine wp_goto ?_
              exact HJ.out (i + 1) ms (fun i => List.getD [undef, _, _, _, undef, undef, undef, undef, _, undef, _, _, _, _, _, _, _, _, _, _, _, _, _, _, _, _, _, _, _, _, _, _, _, _, _, _, _, _, _, _, _, _, _, _, _, _, _, _, _, _, _, _, _, _, _, _, _, _, _, _, _, _, _, _, _, _, _, _, _, _, _, _, _, _, _, _, _, _, _, _, _, _, _, _, _, _, _, _, _, _, _, _, _, _, _, _, _, _, _, _, _, _] i undef) _ (by omega) (by omega) hms HP.out ⟨k, HK2.out⟩
          · have a10 : (t0 == 10) = false := beq_eq_false_iff_ne.2 (fun h => kA (by simp [h]))
            have a9 : (t0 == 9) = false := beq_eq_false_iff_ne.2 (fun h => kA (by simp [h]))
            have a11 : (t0 == 11) = false := beq_eq_false_iff_ne.2 (fun h => kA (by simp [h]))
            have hk2 := HK.out
            rw [if_neg kA] at hk2
            clear HK kA
            by_cases k7 : t0 = 7
            · subst k7
              rw [if_pos rfl] at hk2
              cases hv : varS (l0.drop (i + 1)) 1 with
              | some n =>
                rw [hv] at hk2
                have hn := varS_le _ _ _ hv
                rw [List.length_drop] at hn
                have HV := Lib.hid hv
                have HK2 := Lib.hid hk2
                clear hk2 hv
                go_wp2_with (go_at_call 39; go_must (with_reducible refine (var_some (some ad) c0 l0 i n w6 hlt hlen (Kd.C_below HR.out HP.out.bel) HV.out).mono ?_); rintro e w7 ⟨rfl, nd, rfl⟩)
                refine wp_goto ?_
                exact HJ.out (i + 1 + n) ms (fun i => List.getD [undef, _, _, _, undef, undef, undef, undef, _, undef, _, _, _, _, _, _, _, _, _, _, _, _, _, _, _, _, _, _, _, _, _, _, _, _, _, _, _, _, _, _, _, _, _, _, _, _, _, _, _, _, _, _, _, _, _, _, _, _, _, _, _, _, _, _, _, _, _, _, _, _, _, _, _, _, _, _, _, _, _, _, _, _, _, _, _, _, _, _, _, _, _, _, _, _, _, _, _, _, _, _, _, _] i undef) _ (by omega) (by omega) hms (HP.out.below (Nat.le_refl _) (belDrew (Below.refl _ _) nd)) ⟨k, HK2.out⟩
              | none =>
                rw [hv] at hk2
                obtain rfl := Option.some.inj hk2
                have HV := Lib.hid hv
                clear hk2 hv
                have hc0 := (blk_cell HP.out.R 0).trans (show _ = some (Value.slice none 0 0) from rfl)
                have hc1 := (blk_cell HP.out.R 1).trans (show _ = some (Value.int .i64 0) from rfl)
                have hf0 := blk_frozen HP.out.R 0
                have hf1 := blk_frozen HP.out.R 1
                go_wp2_with (go_at_call 39; go_must (with_reducible refine (var_none (some ad) c0 l0 i w6 hlt hlen (Kd.C_below HR.out HP.out.bel) HV.out).mono ?_); rintro e w7 ⟨rfl, nd, rfl⟩)
                simp only [jumps]
                refine bodyPost_ret (results_ctt rfl _ _ rb 27 #[.slice none 0 0, .int .i64 0] (0, 0) _ rfl (blk_put (blk_put (blk_drewN HP.out.R nd) 0 _ rfl) 1 _ rfl) Tryd.underlying27 rfl (by kernel_rfl)) rfl ?_
                exact ⟨_, rfl, Kd.R_nil _ _ _ _ _, below_set (below_set (belDrew HP.out.bel nd) HP.out.geR) HP.out.geR⟩
            · have a7 : (t0 == 7) = false := beq_eq_false_iff_ne.2 k7
              rw [if_neg k7] at hk2
              clear k7
              by_cases k4 : t0 = 4
              · subst k4
                rw [if_pos rfl] at hk2
                obtain rfl := Option.some.inj hk2
                clear hk2
                have hc0 := (blk_cell HP.out.R 0).trans (show _ = some (Value.slice none 0 0) from rfl)
                have hc1 := (blk_cell HP.out.R 1).trans (show _ = some (Value.int .i64 0) from rfl)
                have hf0 := blk_frozen HP.out.R 0
                have hf1 := blk_frozen HP.out.R 1
                obtain ⟨v, hbk, hbr⟩ := HP.out.K
                obtain ⟨Av, cv, rfl⟩ := Kd.R_slice hbr
                have hd0 := (blk_cell hbk 0).trans (show _ = some (Value.slice Av ms.length cv) from rfl)
                have hd1 := (blk_cell hbk 1).trans (show _ = some (Value.int .i64 0) from rfl)
                have hg0 := blk_frozen hbk 0
                have hg1 := blk_frozen hbk 1
                have HBK := Lib.hid hbk
                have HBR := Lib.hid hbr
                clear hbk hbr
                have hne : rb ≠ bb := HP.out.ne
                have hne2 : bb ≠ rb := Ne.symm hne
                go_wp2
                simp only [jumps]
                refine bodyPost_ret (results_ctt rfl _ _ rb 27 #[.slice Av ms.length cv, .int .i64 0] (0, 0) _ rfl (blk_put (cs := #[.slice Av ms.length cv, .int .i64 0]) (blk_put (cs := #[.slice none 0 0, .int .i64 0]) (HP.out.R) 0 _ rfl) 1 _ rfl) Tryd.underlying27 rfl (by kernel_rfl)) rfl ?_
                exact ⟨_, rfl, Kd.R_mono (Kd.R_far (p := ⟨rb, 1, none⟩) (Kd.R_far (p := ⟨rb, 0, none⟩) (Kd.R_types HBR.out HP.out.R (by decide)) (fun _ hk => hk.2) _) (fun _ hk => hk.2) _) (fun _ _ => trivial), below_set (below_set (HP.out.bel) HP.out.geR) HP.out.geR⟩
              · have a4 : (t0 == 4) = false := beq_eq_false_iff_ne.2 k4
                rw [if_neg k4] at hk2
                clear k4
                by_cases k2 : t0 = 2
                · subst k2
                  rw [if_pos rfl] at hk2
                  have HK2 := Lib.hid hk2
                  clear hk2
                  cases hnum : numF t1 with
                  | true =>
                    have hk3 := HK2.out
                    rw [if_pos hnum] at hk3
                    have HK3 := Lib.hid hk3
                    clear HK2 hk3
                    have hjump2 := fun (i' : Nat) (u' : Nat → Value) (w'' : World) (h1 : i < i') (h2 : i' ≤ l0.length) (h4 : PJ W W.heap.size rb bb ms w'') (h5 : i' = i + 1 + lead 3 (l0.drop (i + 1))) => HJ.out i' ms u' w'' h1 h2 hms h4 ⟨k, by rw [h5]; exact HK3.out⟩
                    have HJ2 := Lib.hid hjump2
                    clear hjump2 HJ HK3
                    go_wp2_with (go_at_call 40; (with_reducible refine (number_any t1 hts w6).mono ?_); rintro e w7 ⟨rfl, hb7⟩; have HB7 := Lib.hid hb7; clear hb7)
                    have HP7 := Lib.hid (HP.out.below (Nat.le_refl _) HB7.out)
                    clear HP hy0 hy1 HT
                    go_loopw [9] (fun v9 wr => ∃ j : Nat, v9 = .int .i64 j ∧ i + 1 ≤ j ∧ j ≤ l0.length ∧ j + lead 3 (l0.drop j) = i + 1 + lead 3 (l0.drop (i + 1)) ∧ Drawn0 w7 wr) (fun v9 _ => l0.length - (Go.RowKit.intOf v9).toNat)
                    case atStart => exact ⟨i + 1, rfl, Nat.le_refl _, by omega, rfl, Drawn0.refl _⟩
                    case round =>
                      obtain ⟨j, rfl, hj1, hj2, hj3, nd, rfl⟩ := hrel
                      have HJ3 := Lib.hid hj3
                      clear hj3
                      by_cases hj : j < l0.length
                      · obtain ⟨ad2, e, hx0, _, _⟩ := at_T46 (Kd.C_below HR.out HP7.out.bel) (j : Int) (by omega) (by omega)
                        obtain rfl := Option.some.inj e
                        have HLS := Lib.hid (lead_step 3 l0 j hj)
                        obtain ⟨td, htd⟩ : ∃ td, (rd_T46 l0 (j : Int)).f0 = td := ⟨_, rfl⟩
                        rw [htd, Int.toNat_natCast] at hx0
                        have q1 : ((j : Int) < (l0.length : Int)) = True := eq_true (by omega)
                        have q2 : (0 ≤ (j : Int)) = True := eq_true (by omega)
                        by_cases k3 : td = 3
                        · subst k3
                          have hl := HLS.out
                          rw [htd, if_pos rfl] at hl
                          have HL := Lib.hid hl
                          clear HLS hl htd
                          go_wp2
                          go_roundw
                          case rel =>
                            refine ⟨j + 1, rfl, by omega, by omega, ?_, nd, rfl⟩
                            have h1 := HJ3.out
                            have h2 := HL.out
                            omega
                          case measure =>
                            show l0.length - ((j + 1 : Nat) : Int).toNat < l0.length - ((j : Nat) : Int).toNat
                            omega
                        · have b3 : (td == 3) = false := beq_eq_false_iff_ne.2 k3
                          have hl := HLS.out
                          rw [htd, if_neg k3] at hl
                          have HL := Lib.hid hl
                          clear HLS hl htd
                          go_wp2
                          refine wp_goto ?_
                          exact HJ2.out j (fun i => List.getD [undef, _, _, _, undef, undef, undef, undef, _, undef, _, _, _, _, _, _, _, _, _, _, _, _, _, _, _, _, _, _, _, _, _, _, _, _, _, _, _, _, _, _, _, _, _, _, _, _, _, _, _, _, _, _, _, _, _, _, _, _, _, _, _, _, _, _, _, _, _, _, _, _, _, _, _, _, _, _, _, _, _, _, _, _, _, _, _, _, _, _, _, _, _, _, _, _, _, _, _, _, _, _, _, _] i undef) _ (by omega) (by omega) (HP7.out.below (Nat.le_refl _) (belDrew (Below.refl _ _) nd)) (by have h1 := HJ3.out; have h2 := HL.out; omega)
                      · have q1 : ((j : Int) < (l0.length : Int)) = False := eq_false (by omega)
                        go_wp2
                        refine wp_goto ?_
                        refine HJ2.out j (fun i => List.getD [undef, _, _, _, undef, undef, undef, undef, _, undef, _, _, _, _, _, _, _, _, _, _, _, _, _, _, _, _, _, _, _, _, _, _, _, _, _, _, _, _, _, _, _, _, _, _, _, _, _, _, _, _, _, _, _, _, _, _, _, _, _, _, _, _, _, _, _, _, _, _, _, _, _, _, _, _, _, _, _, _, _, _, _, _, _, _, _, _, _, _, _, _, _, _, _, _, _, _, _, _, _, _, _, _] i undef) _ (by omega) (by omega) (HP7.out.below (Nat.le_refl _) (belDrew (Below.refl _ _) nd)) ?_
                        have h1 := HJ3.out
                        rw [List.drop_eq_nil_of_le (by omega)] at h1
                        exact h1
                  | false =>
                    have hk3 := HK2.out
                    rw [if_neg (by rw [hnum]; decide)] at hk3
                    clear HK2
                    obtain ⟨rs, hrs⟩ : ∃ rs, resF t1 = rs := ⟨_, rfl⟩
                    have hcs := resF_cases t1
                    have hres := result_any t1
                    rw [hrs] at hk3 hcs hres
                    have HRES := Lib.hid hres
                    clear hres hrs
                    by_cases hr1 : 1 ≤ rs
                    · rw [if_pos hr1] at hk3
                      obtain rfl := Option.some.inj hk3
                      clear hk3
                      have hr2 : (rs == 0) = false := beq_eq_false_iff_ne.2 (by omega)
                      have hr3 : 0 ≤ rs := by omega
                      have hr4 : rs ≠ 0 := by omega
                      clear hcs hr1
                      go_upto_region 24 with (first
                        | (go_at_call 40; (with_reducible refine (number_any t1 hts w6).mono ?_); rintro e w7 ⟨rfl, hb7⟩; rw [hnum]; have HB7 := Lib.hid hb7; clear hb7; have hy1b : w7.cell? ⟨gb, 1, none⟩ = some (.string t1) := (HB7.out.cell (World.block_lt_of_cell? w6 _ hy1)).trans hy1)
                        | (go_at_call 41; (with_reducible refine (HRES.out w7 (HG.out.below (HP.out.bel.trans (HB7.out.mono HP.out.bel.size)))).mono ?_); rintro e w8 ⟨rfl, nd8, rfl⟩))
                      obtain ⟨w8, hw8⟩ : ∃ w8, w7.drewN nd8 = w8 := ⟨_, rfl⟩
                      have hP8 : PJ W W.heap.size rb bb ms w8 := by rw [← hw8]; exact (HP.out.below (Nat.le_refl _) HB7.out).below (Nat.le_refl _) (belDrew (Below.refl _ _) nd8)
                      have hy1c : w8.cell? ⟨gb, 1, none⟩ = some (.string t1) := by rw [← hw8]; exact hy1b
                      rw [hw8]
                      clear hw8
                      have HP8 := Lib.hid hP8
                      clear hP8 hy0 hy1 hy1b HP HT HB7
                      have hc0 := (blk_cell HP8.out.R 0).trans (show _ = some (Value.slice none 0 0) from rfl)
                      have hc1 := (blk_cell HP8.out.R 1).trans (show _ = some (Value.int .i64 0) from rfl)
                      have hf0 := blk_frozen HP8.out.R 0
                      have hf1 := blk_frozen HP8.out.R 1
                      obtain ⟨v, hbk, hbr⟩ := HP8.out.K
                      obtain ⟨Av, cv, rfl⟩ := Kd.R_slice hbr
                      have hd0 := (blk_cell hbk 0).trans (show _ = some (Value.slice Av ms.length cv) from rfl)
                      have hd1 := (blk_cell hbk 1).trans (show _ = some (Value.int .i64 0) from rfl)
                      have hg0 := blk_frozen hbk 0
                      have hg1 := blk_frozen hbk 1
                      have HBK := Lib.hid hbk
                      have HBR := Lib.hid hbr
                      clear hbk hbr
                      have hne : rb ≠ bb := HP8.out.ne
                      have hne2 : bb ≠ rb := Ne.symm hne
                      clear hy1c
                      go_wp2
                      simp only [jumps]
                      refine bodyPost_ret (results_ctt rfl _ _ rb 27 #[.slice Av ms.length cv, .int .i64 rs] (0, 0) _ rfl (blk_put (cs := #[.slice Av ms.length cv, .int .i64 0]) (blk_put (cs := #[.slice none 0 0, .int .i64 0]) (blk_far HP8.out.R hne _) 0 _ rfl) 1 _ rfl) Tryd.underlying27 rfl (by kernel_rfl)) rfl ?_
                      exact ⟨_, rfl, Kd.R_mono (Kd.R_far (p := ⟨rb, 1, none⟩) (Kd.R_far (p := ⟨rb, 0, none⟩) (Kd.R_far (p := ⟨bb, 1, none⟩) (Kd.R_types (Kd.R_types HBR.out HP8.out.R (by decide)) HBK.out (by decide)) (fun _ hk => hk.2) _) (fun _ hk => hk.1.2) _) (fun _ hk => hk.1.2) _) (fun _ _ => trivial), below_set (below_set (below_set HP8.out.bel HP8.out.geB) HP8.out.geR) HP8.out.geR⟩
                    · rw [if_neg hr1] at hk3
                      have HK3 := Lib.hid hk3
                      have hrs : rs = -1 ∨ rs = 0 := by omega
                      clear hk3 hcs hr1
                      rcases hrs with rfl | rfl
                      all_goals
                        go_upto_region 24 with (first
                          | (go_at_call 40; (with_reducible refine (number_any t1 hts w6).mono ?_); rintro e w7 ⟨rfl, hb7⟩; rw [hnum]; have HB7 := Lib.hid hb7; clear hb7; have hy1b : w7.cell? ⟨gb, 1, none⟩ = some (.string t1) := (HB7.out.cell (World.block_lt_of_cell? w6 _ hy1)).trans hy1)
                          | (go_at_call 41; (with_reducible refine (HRES.out w7 (HG.out.below (HP.out.bel.trans (HB7.out.mono HP.out.bel.size)))).mono ?_); rintro e w8 ⟨rfl, nd8, rfl⟩))
                        obtain ⟨w8, hw8⟩ : ∃ w8, w7.drewN nd8 = w8 := ⟨_, rfl⟩
                        have hP8 : PJ W W.heap.size rb bb ms w8 := by rw [← hw8]; exact (HP.out.below (Nat.le_refl _) HB7.out).below (Nat.le_refl _) (belDrew (Below.refl _ _) nd8)
                        have hy1c : w8.cell? ⟨gb, 1, none⟩ = some (.string t1) := by rw [← hw8]; exact hy1b
                        rw [hw8]
                        clear hw8
                        have HP8 := Lib.hid hP8
                        clear hP8 hy0 hy1 hy1b HP HT HB7
                        have hc0 := (blk_cell HP8.out.R 0).trans (show _ = some (Value.slice none 0 0) from rfl)
                        have hc1 := (blk_cell HP8.out.R 1).trans (show _ = some (Value.int .i64 0) from rfl)
                        have hf0 := blk_frozen HP8.out.R 0
                        have hf1 := blk_frozen HP8.out.R 1
                        obtain ⟨v, hbk, hbr⟩ := HP8.out.K
                        obtain ⟨Av, cv, rfl⟩ := Kd.R_slice hbr
                        have hd0 := (blk_cell hbk 0).trans (show _ = some (Value.slice Av ms.length cv) from rfl)
                        have hd1 := (blk_cell hbk 1).trans (show _ = some (Value.int .i64 0) from rfl)
                        have hg0 := blk_frozen hbk 0
                        have hg1 := blk_frozen hbk 1
                        have HBK := Lib.hid hbk
                        have HBR := Lib.hid hbr
                        clear hbk hbr
                        have hne : rb ≠ bb := HP8.out.ne
                        have hne2 : bb ≠ rb := Ne.symm hne
                        by_cases h300 : ms.length = 300
                        · have h3 := HK3.out
                          rw [if_pos h300] at h3
                          obtain rfl := Option.some.inj h3
                          clear h3 HK3
                          have e300 : ((ms.length : Int) == 300) = true := beq_iff_eq.2 (by omega)
                          go_wp2
                          simp only [jumps]
                          refine bodyPost_ret (results_ctt rfl _ _ rb 27 #[.slice none 0 0, .int .i64 0] (0, 0) _ rfl (blk_put (blk_put (HP8.out.R) 0 _ rfl) 1 _ rfl) Tryd.underlying27 rfl (by kernel_rfl)) rfl ?_
                          exact ⟨_, rfl, Kd.R_nil _ _ _ _ _, below_set (below_set (HP8.out.bel) HP8.out.geR) HP8.out.geR⟩
                        · have h3 := HK3.out
                          rw [if_neg h300] at h3
                          have HK4 := Lib.hid h3
                          clear h3 HK3
                          have e300 : ((ms.length : Int) == 300) = false := beq_eq_false_iff_ne.2 (by omega)
                          go_wp2_with (at_builtin; refine Kd.R_append Kd.string (w0 := W) W.heap.size rfl (.tmp 95) (.tmp 98) 25 9 (.string ⟨#[]⟩) 16 rfl Tryd.underlying25 info9 rfl (by decide) (by omega) (.slice Av ms.length cv) ms t1 [.string t1] (fun _ => True) (fun _ => False) rfl (by first | rfl | (go_simp; done) | (go_simp; rfl)) ?aP (fun _ hk => hk.elim) ?aF ?aO ?aB ?aS ?aL ?_; (case aP => exact rfl); (case aF => exact (fun _ _ => trivial)); (case aO => ((with_reducible repeat (first | apply Kd.R_alloc | apply Kd.R_drewN | apply Kd.R_drew)); exact HBR.out)); (case aB => first | exact HP8.out.bel | exact HP8.out.bel.alloc HP8.out.bel.size _); (case aS => first | exact HP8.out.bel.size | (have := HP8.out.bel.size; simp; omega)); (case aL => omega); intro v9 w9 ho hb hg hat; obtain ⟨A9, c9, rfl⟩ := Kd.R_slice ho; have hr9 := blk_grown (g := rb) (o := .cells #[.slice none 0 0, .int .i64 0] 27 (0, 0)) (by first | exact HP8.out.R | exact blk_alloc HP8.out.R _) hg (Kd.R_ne HBR.out HP8.out.R (by decide)); have hk9 := blk_grown (g := bb) (o := .cells #[.slice Av ms.length cv, .int .i64 0] 27 (0, 0)) (by first | exact HBK.out | exact blk_alloc HBK.out _) hg (Kd.R_ne HBR.out HBK.out (by decide)); have hcz := (blk_cell hk9 0).trans (show _ = some (Value.slice Av ms.length cv) from rfl); have hcf := blk_frozen hk9 0; have HR9 := Lib.hid hr9; have HK9 := Lib.hid hk9; have HO := Lib.hid ho; have HB9 := Lib.hid hb; clear ho hb hg hat hr9 hk9)
                          refine wp_goto ?_
                          have ho2 : Kd.R Kd.string 9 w9 W.heap.size (fun _ => True) (.slice A9 (ms.length + 1) c9) (ms ++ [t1]) := by have h := HO.out; rw [List.length_append] at h; exact h
                          exact HJ.out (i + 1) (ms ++ [t1]) (fun i => List.getD [undef, _, _, _, undef, undef, undef, undef, _, undef, _, _, _, _, _, _, _, _, _, _, _, _, _, _, _, _, _, _, _, _, _, _, _, _, _, _, _, _, _, _, _, _, _, _, _, _, _, _, _, _, _, _, _, _, _, _, _, _, _, _, _, _, _, _, _, _, _, _, _, _, _, _, _, _, _, _, _, _, _, _, _, _, _, _, _, _, _, _, _, _, _, _, _, _, _, _, _, _, _, _, _, _] i undef) _ (by omega) (by omega) (by rw [List.length_append]; simp; omega) ⟨HP8.out.geR, HP8.out.geB, hne, blk_far HR9.out hne _, ⟨_, blk_put HK9.out 0 _ rfl, Kd.R_mono (Kd.R_far (p := ⟨bb, 0, none⟩) (Kd.R_types ho2 HK9.out (by decide)) (fun _ hk => hk.2) _) (fun _ _ => trivial)⟩, below_set HB9.out HP8.out.geB⟩ ⟨k, HK4.out⟩
                · have a2 : (t0 == 2) = false := beq_eq_false_iff_ne.2 k2
                  rw [if_neg k2] at hk2
                  obtain rfl := Option.some.inj hk2
                  clear hk2
                  have hc0 := (blk_cell HP.out.R 0).trans (show _ = some (Value.slice none 0 0) from rfl)
                  have hc1 := (blk_cell HP.out.R 1).trans (show _ = some (Value.int .i64 0) from rfl)
                  have hf0 := blk_frozen HP.out.R 0
                  have hf1 := blk_frozen HP.out.R 1
                  go_wp2
                  simp only [jumps]
                  refine bodyPost_ret (results_ctt rfl _ _ rb 27 #[.slice none 0 0, .int .i64 0] (0, 0) _ rfl (blk_put (blk_put (HP.out.R) 0 _ rfl) 1 _ rfl) Tryd.underlying27 rfl (by kernel_rfl)) rfl ?_
                  exact ⟨_, rfl, Kd.R_nil _ _ _ _ _, below_set (below_set (HP.out.bel) HP.out.geR) HP.out.geR⟩

set_option maxHeartbeats 1000000 in
set_option maxRecDepth 100000 in
theorem Parse_range (A0 : Option Addr) (c0 n0 : Nat) (a1 : Int) (W : World) (ha : a1 < 0 ∨ (n0 : Int) < a1) :
    Calls Tryd.prog 10 #[.slice A0 n0 c0, .int .i64 a1] W fun e W' => ∃ v0_ : Value, e = .returned (.tuple #[.agg #[v0_, .int .i64 0], .int .i64 0, .int .i64 3]) ∧ Kd.R Kd.string 9 W' W.heap.size (fun _ => True) v0_ [] ∧ Below W.heap.size W W' := by
  by_cases hneg : a1 < 0
  · have c1 : decide (a1 < 0) = true := decide_eq_true hneg
    clear ha hneg
    go_enter Tryd.func10, Tryd.ntmps10
    go_upto_region 1 with (first
      | ((with_reducible refine gate_dst (N := 4) rfl ?_); (try (refine gate_guard (by rfl) ?_; dsimp only)); refine box_event ?hg (N := 4) ?hd (cs := #[.slice none 0 0, .int .i64 0]) (t := 27) ?hr ?_; (case hd => rfl); (case hg => rfl); (case hr => first | (go_simp; done) | (go_simp; rfl)); intro rb hrb w4 hbox hb; have HBX := Lib.hid hbox; have HB4 := Lib.hid hb; have HRB := Lib.hid hrb; clear hbox hb hrb))
    have hc0 := (blk_cell HBX.out 0).trans (show _ = some (Value.slice none 0 0) from rfl)
    have hc1 := (blk_cell HBX.out 1).trans (show _ = some (Value.int .i64 0) from rfl)
    have hf0 := blk_frozen HBX.out 0
    have hf1 := blk_frozen HBX.out 1
    refine wp_scope_labels (fun _ _ _ => False) (fun _ _ _ => 0) (fun _ _ _ h => h.elim) ?_ (fun _ _ _ h => h.elim)
    intro _
    go_wp2
    simp only [jumps]
    have hge : W.heap.size ≤ rb := by rw [HRB.out]; exact Nat.le_refl _
    refine bodyPost_ret (results_ctt rfl _ _ rb 27 #[.slice none 0 0, .int .i64 0] (0, 0) _ rfl (blk_put (blk_put HBX.out 0 _ rfl) 1 _ rfl) Tryd.underlying27 rfl (by kernel_rfl)) rfl ?_
    exact ⟨_, rfl, Kd.R_nil _ _ _ _ _, below_set (below_set HB4.out hge) hge⟩
  · have c1 : decide (a1 < 0) = false := decide_eq_false hneg
    have c2 : decide ((n0 : Int) < a1) = true := decide_eq_true (by omega)
    clear ha hneg
    go_enter Tryd.func10, Tryd.ntmps10
    go_upto_region 1 with (first
      | ((with_reducible refine gate_dst (N := 4) rfl ?_); (try (refine gate_guard (by rfl) ?_; dsimp only)); refine box_event ?hg (N := 4) ?hd (cs := #[.slice none 0 0, .int .i64 0]) (t := 27) ?hr ?_; (case hd => rfl); (case hg => rfl); (case hr => first | (go_simp; done) | (go_simp; rfl)); intro rb hrb w4 hbox hb; have HBX := Lib.hid hbox; have HB4 := Lib.hid hb; have HRB := Lib.hid hrb; clear hbox hb hrb))
    have hc0 := (blk_cell HBX.out 0).trans (show _ = some (Value.slice none 0 0) from rfl)
    have hc1 := (blk_cell HBX.out 1).trans (show _ = some (Value.int .i64 0) from rfl)
    have hf0 := blk_frozen HBX.out 0
    have hf1 := blk_frozen HBX.out 1
    refine wp_scope_labels (fun _ _ _ => False) (fun _ _ _ => 0) (fun _ _ _ h => h.elim) ?_ (fun _ _ _ h => h.elim)
    intro _
    go_wp2
    simp only [jumps]
    have hge : W.heap.size ≤ rb := by rw [HRB.out]; exact Nat.le_refl _
    refine bodyPost_ret (results_ctt rfl _ _ rb 27 #[.slice none 0 0, .int .i64 0] (0, 0) _ rfl (blk_put (blk_put HBX.out 0 _ rfl) 1 _ rfl) Tryd.underlying27 rfl (by kernel_rfl)) rfl ?_
    exact ⟨_, rfl, Kd.R_nil _ _ _ _ _, below_set (below_set HB4.out hge) hge⟩

theorem Parse_calls (A0 : Option Addr) (c0 : Nat) (l0 : List S46) (a1 : Int) (r1 : List ByteArray) (r2 r3 r4 : Int) (w : World) (hr0 : Kd.C k46 w A0 l0.length l0) (hc0 : l0.length ≤ c0) (h : parseF l0 a1 = some (r1, r2, r3, r4)) (hg : Laid w) :
    Calls Tryd.prog 10 #[.slice A0 l0.length c0, .int .i64 a1] w fun e w' => ∃ v0_ : Value, e = .returned (.tuple #[.agg #[v0_, .int .i64 r2], .int .i64 r3, .int .i64 r4]) ∧ Kd.R Kd.string 9 w' w.heap.size (fun _ => True) v0_ r1 ∧ Below w.heap.size w w' := by
  unfold parseF at h
  split at h
  · rename_i ha
    have h' := Option.some.inj h
    simp only [Prod.mk.injEq] at h'
    obtain ⟨rfl, rfl, rfl, rfl⟩ := h'
    exact Parse_range A0 c0 l0.length a1 w ha
  · rename_i ha
    split at h
    · rename_i hb
      exact Parse_any A0 c0 l0 a1 w hb.1 (fun t ht => by have := List.all_eq_true.1 hb.2 t ht; simpa using this) hr0 hg (r1, r2, r3, r4) (by omega) (by omega) ⟨_, h⟩
    · cases h
end Go.Proofs.YtlpoglkddknedaaDoor.H

/- TokenLong walked: it answers true. Conditions: the pieces' numbers are bytes, no list is longer than the rows allow, the library's number lies at cell 0. -/
import Derived.Test.YtlpoglkddknedaaGreatDoorUj
import Derived.Test.YtlpoglkddknedaaGreatDoorPl
namespace Go.Proofs.YtlpoglkddknedaaGreatDoor.R
open Go.RowKit Go.Lib Go.Proofs.YtlpoglkddknedaaGreatDoor.T Go.Proofs.YtlpoglkddknedaaGreatDoor.H Go.Proofs.YtlpoglkddknedaaGreatDoorW.PrintWords Go.Proofs.YtlpoglkddknedaaGreatDoorW.PrintLast
set_option linter.unusedVariables false
set_option linter.unusedSimpArgs false
open Go.Proofs.YtlpoglkddknedaaGreatDoor.P (rep LongOk)
theorem repeat_call (l : List UInt8) (h0 : 0 < l.length) (hl : l.length ≤ 2) (k : Nat) (hk : k < 600) (w : World) :
    Calls Tryz.prog 11 #[.string ⟨l.toArray⟩, .int .i64 (k : Int)] w fun e w' => e = .returned (.string (rep l k)) ∧ Below w.heap.size w w' := by
  have hsz : (⟨l.toArray⟩ : ByteArray).size = l.length := size_mk l
  have hD : (⟨l.toArray⟩ : ByteArray).data.toList = l := Go.Proofs.YtlpoglkddknedaaGreatDoor.P.D_mk l
  match k, hk with
  | 0, _ =>
    refine (Tryz.strings_Repeat_zero ⟨l.toArray⟩ w).mono ?_
    rintro e w' ⟨rfl, rfl⟩
    exact ⟨rfl, Below.refl _ _⟩
  | 1, _ =>
    refine (Tryz.strings_Repeat_one ⟨l.toArray⟩ w).mono ?_
    rintro e w' ⟨rfl, rfl⟩
    refine ⟨?_, Below.refl _ _⟩
    unfold rep
    rw [Lib.repeatL_one]
  | k + 2, hk =>
    have hm : l.length * (k + 2) ≤ 2 * (k + 2) := Nat.mul_le_mul_right _ hl
    refine (Tryz.strings_Repeat_main ⟨l.toArray⟩ (k + 2) w (by omega) (by omega) (by rw [hsz]; omega) (by rw [hsz]; exact h0)).mono ?_
    rintro e w' ⟨rfl, hb⟩
    rw [hD]
    exact ⟨rfl, hb⟩
theorem wrong_cell (w : World) (k : Nat) : (w.alloc (.cells (Go.Proofs.YtlpoglkddknedaaGreatDoor.P.wrongs.map Value.string).toArray 9)).cell? ⟨w.heap.size, k % 23, none⟩ = some (.string (Go.Proofs.YtlpoglkddknedaaGreatDoor.P.wrongs.getD (k % 23) ⟨#[]⟩)) := by
  have h : k % 23 < Go.Proofs.YtlpoglkddknedaaGreatDoor.P.wrongs.length := Nat.mod_lt _ (by decide)
  rw [World.cell?_alloc_new, List.getElem?_toArray, List.getElem?_map, List.getD_eq_getElem?_getD, List.getElem?_eq_getElem h]
  rfl
/-- The token's block beside the row of tokens, ahead of the scan. -/
structure LX (W : World) (b : Nat) (vt : Value) (l : List S31) (kd : Int) (tx : ByteArray) (w : World) : Prop where
  hB : W.heap.size ≤ b
  blk : w.heap[b]? = some (.cells #[.int .i64 kd, .string tx, .int .i64 0] 31 (0, 0))
  row : Kd.R k31 31 w W.heap.size (fun k => k ≠ b) vt l
  bl : Below W.heap.size W w
/-- .. and behind it. -/
structure LZ (W w3 : World) (b n1 : Nat) (vt : Value) (l : List S31) (kd : Int) (tx : ByteArray) (z : Int) (w : World) : Prop where
  hB : W.heap.size ≤ b
  hlt : b < n1
  hn : n1 ≤ w3.heap.size
  blk : w.heap[b]? = some (.cells #[.int .i64 kd, .string tx, .int .i64 z] 31 (0, 0))
  row : Kd.R k31 31 w W.heap.size (fun k => k ≠ b ∧ (k < n1 ∨ w3.heap.size ≤ k)) vt l
  bl : Below W.heap.size W w
  kp : Kept w3 w (fun k => k < n1)
section
variable {W w3 w w1 : World} {b n1 : Nat} {vt v1 : Value} {l l1 : List S31} {kd z : Int} {tx : ByteArray}
theorem LX.start {w1 : World} (hr : Kd.R k31 31 w1 W.heap.size (fun _ => True) vt l) (hb : Below W.heap.size W w1) : LX W w1.heap.size vt l 0 ⟨#[]⟩ (w1.alloc (.cells #[.int .i64 0, .string ⟨#[]⟩, .int .i64 0] 31)) where
  hB := hb.size
  blk := blk_new w1 _
  row := Kd.R_below (Kd.R_mono (Kd.R_bound hr) (fun k hk => Nat.ne_of_lt hk.2.2.1)) ((Below.refl _ _).alloc (Nat.le_refl _) _)
  bl := hb.alloc hb.size _
theorem LX.below (h : LX W b vt l kd tx w) (hb : Below w.heap.size w w1) : LX W b vt l kd tx w1 where
  hB := h.hB
  blk := blk_below h.blk hb
  row := Kd.R_below h.row hb
  bl := h.bl.trans (hb.mono h.bl.size)
theorem LX.put0 (h : LX W b vt l kd tx w) (x : Int) : LX W b vt l x tx (w.setCell ⟨b, 0, none⟩ (.int .i64 x)) where
  hB := h.hB
  blk := blk_put h.blk 0 _ rfl
  row := Kd.R_far (p := ⟨b, 0, none⟩) h.row (fun _ hk => hk) _
  bl := h.bl.setCell (p := ⟨b, 0, none⟩) h.hB _
theorem LX.put1 (h : LX W b vt l kd tx w) (x : ByteArray) : LX W b vt l kd x (w.setCell ⟨b, 1, none⟩ (.string x)) where
  hB := h.hB
  blk := blk_put h.blk 1 _ rfl
  row := Kd.R_far (p := ⟨b, 1, none⟩) h.row (fun _ hk => hk) _
  bl := h.bl.setCell (p := ⟨b, 1, none⟩) h.hB _
theorem LX.put2 (h : LX W b vt l kd tx w) : LX W b vt l kd tx (w.setCell ⟨b, 2, none⟩ (.int .i64 0)) where
  hB := h.hB
  blk := blk_put h.blk 2 _ rfl
  row := Kd.R_far (p := ⟨b, 2, none⟩) h.row (fun _ hk => hk) _
  bl := h.bl.setCell (p := ⟨b, 2, none⟩) h.hB _
theorem LX.cs (h : LX W b vt l kd tx w) : w.cell? ⟨b, 0, none⟩ = some (.int .i64 kd) ∧ w.cell? ⟨b, 1, none⟩ = some (.string tx) ∧ w.cell? ⟨b, 2, none⟩ = some (.int .i64 0) :=
  ⟨(blk_cell h.blk 0).trans rfl, (blk_cell h.blk 1).trans rfl, (blk_cell h.blk 2).trans rfl⟩
theorem LX.fz (h : LX W b vt l kd tx w) (i : Nat) : w.frozen? ⟨b, i, none⟩ = false := blk_frozen h.blk i
/-- The whole token is stored. -/
theorem LX.sto (h : LX W b vt l kd tx w) (x : Int) (t : ByteArray) : w.cell? ⟨b, 0, none⟩ = some (.int .i64 kd) ∧ w.frozen? ⟨b, 0, none⟩ = false ∧
    (w.setCell ⟨b, 0, none⟩ (.int .i64 x)).cell? ⟨b, 1, none⟩ = some (.string tx) ∧ (w.setCell ⟨b, 0, none⟩ (.int .i64 x)).frozen? ⟨b, 1, none⟩ = false ∧
    ((w.setCell ⟨b, 0, none⟩ (.int .i64 x)).setCell ⟨b, 1, none⟩ (.string t)).cell? ⟨b, 2, none⟩ = some (.int .i64 0) ∧ ((w.setCell ⟨b, 0, none⟩ (.int .i64 x)).setCell ⟨b, 1, none⟩ (.string t)).frozen? ⟨b, 2, none⟩ = false ∧
    LX W b vt l x t (((w.setCell ⟨b, 0, none⟩ (.int .i64 x)).setCell ⟨b, 1, none⟩ (.string t)).setCell ⟨b, 2, none⟩ (.int .i64 0)) :=
  ⟨h.cs.1, h.fz 0, (h.put0 x).cs.2.1, (h.put0 x).fz 1, ((h.put0 x).put1 t).cs.2.2, ((h.put0 x).put1 t).fz 2, ((h.put0 x).put1 t).put2⟩
theorem LX.scan (h : LX W b vt l kd tx w) (hb : Below w.heap.size w w1) : LZ W w1 b w.heap.size vt l kd tx 0 w1 where
  hB := h.hB
  hlt := blk_lt h.blk
  hn := hb.size
  blk := blk_below h.blk hb
  row := Kd.R_below (Kd.R_mono (Kd.R_bound h.row) (fun k hk => ⟨hk.1, .inl hk.2.2.1⟩)) hb
  bl := h.bl.trans (hb.mono h.bl.size)
  kp := Kept.refl _ _
theorem LZ.below (h : LZ W w3 b n1 vt l kd tx z w) (hb : Below w.heap.size w w1) : LZ W w3 b n1 vt l kd tx z w1 where
  hB := h.hB
  hlt := h.hlt
  hn := h.hn
  blk := blk_below h.blk hb
  row := Kd.R_below h.row hb
  bl := h.bl.trans (hb.mono h.bl.size)
  kp := h.kp.below hb
theorem LZ.put2 (h : LZ W w3 b n1 vt l kd tx z w) (x : Int) : LZ W w3 b n1 vt l kd tx x (w.setCell ⟨b, 2, none⟩ (.int .i64 x)) where
  hB := h.hB
  hlt := h.hlt
  hn := h.hn
  blk := blk_put h.blk 2 _ rfl
  row := Kd.R_far (p := ⟨b, 2, none⟩) h.row (fun _ hk => hk.1) _
  bl := h.bl.setCell (p := ⟨b, 2, none⟩) h.hB _
  kp := h.kp.setCell (p := ⟨b, 2, none⟩) (.inl h.hlt) _
theorem LZ.app (h : LZ W w3 b n1 vt l kd tx z w) (ho : Kd.R k31 31 w1 W.heap.size (fun k => k ≠ b ∧ (k < n1 ∨ w3.heap.size ≤ k)) v1 l1) (hb : Below W.heap.size W w1) (hg : w.grownBy w1 vt.ownBlock) : LZ W w3 b n1 v1 l1 kd tx z w1 where
  hB := h.hB
  hlt := h.hlt
  hn := h.hn
  blk := (hg.block b (blk_lt h.blk) (fun e => (h.row.1 b e.symm).1 rfl)).trans h.blk
  row := ho
  bl := hb
  kp := Kept.of_grown hg h.kp (fun k e => (h.row.1 k e).2)
theorem LZ.fresh (h : LZ W w3 b n1 vt l kd tx z w) (k : Nat) (hk : w.heap.size ≤ k) : k ≠ b ∧ (k < n1 ∨ w3.heap.size ≤ k) := ⟨fun e => by have := blk_lt h.blk; omega, .inr (Nat.le_trans h.kp.1 hk)⟩
theorem LZ.cs (h : LZ W w3 b n1 vt l kd tx z w) : w.cell? ⟨b, 0, none⟩ = some (.int .i64 kd) ∧ w.cell? ⟨b, 1, none⟩ = some (.string tx) ∧ w.cell? ⟨b, 2, none⟩ = some (.int .i64 z) :=
  ⟨(blk_cell h.blk 0).trans rfl, (blk_cell h.blk 1).trans rfl, (blk_cell h.blk 2).trans rfl⟩
theorem LZ.fz (h : LZ W w3 b n1 vt l kd tx z w) (i : Nat) : w.frozen? ⟨b, i, none⟩ = false := blk_frozen h.blk i
end
set_option maxRecDepth 100000 in
set_option maxHeartbeats 16000000 in
theorem long_call (W : World) (A : Option Addr) (c : Nat) (P : List Pc) (hP : PiecesAt W A P) (hc : P.length ≤ c) (hok : ∀ p ∈ P, p.ok) (mm : Int) (hmm : W.cell? ⟨0, 0, none⟩ = some (.int .i64 mm)) (x0 : Int) (h0 : 0 ≤ x0 ∧ x0 ≤ 65535) (x1 : Int) (h1 : 0 ≤ x1 ∧ x1 ≤ 255) :
    Calls Tryz.prog 5 #[.int .u16 x0, .int .u8 x1, .slice A P.length c] W fun e w' => e = .returned (.bool true) ∧ Below W.heap.size W w' := by
  obtain ⟨m, hm⟩ : ∃ m, P.length = m := ⟨_, rfl⟩
  obtain ⟨hss, htl⟩ := text_sizes P
  obtain ⟨s, hs⟩ : ∃ s, (⟨(textS (P.take 20)).1.toArray⟩ : ByteArray) = s := ⟨_, rfl⟩
  obtain ⟨tk, htk⟩ : ∃ tk, (textS (P.take 20)).2 = tk := ⟨_, rfl⟩
  obtain ⟨nt, hnt⟩ : ∃ nt, tk.length = nt := ⟨_, rfl⟩
  obtain ⟨L, hL⟩ : ∃ L, s.size = L := ⟨_, rfl⟩
  have HTX := Aside0.mk (text_row_call W A c P hP hc hok mm hmm m nt s tk hm hs htk hnt)
  have HLAW := Aside0.mk (fun b kd tx h => Go.Proofs.YtlpoglkddknedaaGreatDoor.P.long_law P (fun p hp => (hok p hp).2.1.1) s hs.symm L hL b kd tx h)
  rw [hs, hL] at hss
  rw [htk] at htl HLAW
  rw [hnt] at htl
  have HNT := Aside0.mk hnt
  obtain ⟨k, hk⟩ : ∃ k : Nat, x0 % 600 = (k : Int) := ⟨(x0 % 600).toNat, by omega⟩
  have hk6 : k < 600 := by omega
  obtain ⟨y, hy⟩ : ∃ y, x1 % 7 = y := ⟨_, rfl⟩
  have hy0 : 0 ≤ y := by omega
  have hy7 : y < 7 := by omega
  obtain ⟨h00, h01⟩ := h0
  obtain ⟨h10, h11⟩ := h1
  rw [hm]
  clear hP hc hok hmm hs htk hm hnt
  go_enter Tryz.func5, Tryz.ntmps5
  go_upto_region 5 with (first
    | (go_at_call 6; (with_reducible refine HTX.out.mono ?_); rintro e w1 ⟨A1, c1, rfl, hr1, hb1⟩; have HR1 := Aside0.mk hr1; have HB1 := Aside0.mk hb1; clear hr1 hb1))
  have HX := Aside0.mk (LX.start HR1.out HB1.out)
  obtain ⟨w2, hw2⟩ : ∃ w, w1.alloc (.cells #[.int .i64 0, .string ⟨#[]⟩, .int .i64 0] 31) = w := ⟨_, rfl⟩
  obtain ⟨b, hb⟩ : ∃ b, w1.heap.size = b := ⟨_, rfl⟩
  rw [hw2, hb] at HX
  rw [hw2, hb]
  clear hw2 hb HR1 HB1 HTX
  rename_i K hK K2 hK2
  have HJ : ∀ (u : Nat → Value) (bad : ByteArray) (kd : Int) (tx : ByteArray) (W0 : World), LongOk bad kd tx → Hid (LX W b (.slice A1 nt c1) tk kd tx W0) → K { tmps := #[.int .u16 x0, .int .u8 x1, .slice A m c, undef, undef, undef, .bool false, .string s, .slice A1 nt c1, .int .i64 (k : Int), .pointer (some ⟨b, 0, none⟩), .string bad, undef, undef, undef, u 15, u 16, u 17, u 18, u 19, u 20, u 21, u 22, u 23, u 24, u 25, u 26, u 27, u 28, u 29, u 30, u 31, u 32, u 33, u 34, u 35, u 36, u 37, u 38, u 39, u 40, u 41, u 42, u 43, u 44, u 45, u 46, u 47, u 48, u 49, u 50, u 51, u 52, u 53, u 54, u 55, u 56, u 57, u 58, u 59, u 60, u 61, u 62, u 63, u 64, u 65, u 66, u 67, u 68, u 69, u 70, u 71, u 72, u 73, u 74, u 75, u 76, u 77, u 78, u 79, u 80, u 81, u 82, u 83, u 84, u 85, u 86, u 87, u 88, u 89, u 90, u 91, u 92, u 93, u 94, u 95, u 96, u 97, u 98, u 99, u 100, u 101, u 102, u 103, u 104, u 105, u 106, u 107, u 108, u 109, u 110, u 111, u 112, u 113, u 114, u 115, u 116, u 117, u 118, u 119, u 120, u 121, u 122, u 123, u 124, u 125, u 126, u 127, u 128, u 129, u 130, u 131, u 132, u 133, u 134, u 135, u 136, u 137, u 138, u 139, u 140, u 141], defers := [] } W0 := by
    intro u bad kd tx W0 hlg hx
    apply hK
    clear hK K2 hK2 HX
    have hF := HLAW.out bad kd tx hlg
    obtain ⟨q, hq⟩ : ∃ q, decide (kd = 2) = q := ⟨_, rfl⟩
    have hIs := hlg.2.1
    rw [hq] at hIs
    have HIS := Aside0.mk hIs
    have hbs := hlg.1
    have hap : ¬ (9223372036854775807 : Nat) < L + bad.size := by omega
    clear hIs hlg HLAW
    by_cases hk0 : kd = 0
    · rw [if_pos hk0] at hF
      have hqf : q = false := by rw [← hq, hk0]; rfl
      subst hk0
      subst hqf
      have HSC := Aside0.mk (scan_row_call (s ++ bad) [] (L : Int) 8 0 rfl hF)
      clear hF hq
      go_upto_region 30 with (first
        | (go_at_call 7; (with_reducible refine (HSC.out _).mono ?_); rintro e w3 ⟨A3, c3, rfl, hr3, hb3⟩; have HZ3 := Aside0.mk (hx.out.scan hb3); clear hr3 hb3))
      obtain ⟨g0, g1, g2⟩ := HZ3.out.cs
      go_wp2_with (first
        | (go_at_call 12; (with_reducible refine (token_Is.calls bad false _ HIS.out).mono ?_); rintro e w4 ⟨rfl, hb4⟩; have HZ4 := Aside0.mk (HZ3.out.below hb4); clear hb4)
        | (go_at_call 10; (with_reducible refine (works_calls _).mono ?_); rintro e w5 ⟨rfl, hb5⟩; have HZ5 := Aside0.mk (HZ4.out.below hb5); clear hb5))
      go_ret
      exact ⟨rfl, HZ5.out.bl⟩
    · rw [if_neg hk0] at hF
      have hkb : (kd == 0) = false := beq_eq_false_iff_ne.2 hk0
      have hk2 : (kd == 2) = q := by rw [← hq]; rfl
      have hln : (tk ++ [(⟨kd, tx, (L : Int)⟩ : S31)]).length = nt + 1 := by rw [List.length_append, HNT.out]; rfl
      obtain ⟨T, hT⟩ : ∃ T, tk ++ [(⟨kd, tx, (L : Int)⟩ : S31)] = T := ⟨_, rfl⟩
      rw [hT] at hF hln
      have HSC := Aside0.mk (scan_row_call (s ++ bad) T 0 0 (nt + 1) hln hF)
      have HT := Aside0.mk hT
      have HLN := Aside0.mk hln
      clear hF hq hT hln hk0
      go_upto_region 30 with (first
        | (go_at_call 7; (with_reducible refine (HSC.out _).mono ?_); rintro e w3 ⟨A3, c3, rfl, hr3, hb3⟩; have HZ3 := Aside0.mk (hx.out.scan hb3); have HR3 := Aside0.mk hr3; clear hr3 hb3))
      obtain ⟨n1, hn1⟩ : ∃ n, W0.heap.size = n := ⟨_, rfl⟩
      have HC3 := Aside0.mk (Kd.C_kept_own (S := fun k => k < n1) (Kd.R_bound HR3.out) (fun k hk hs => by have := hk.2.1; omega))
      have hc3 : nt + 1 ≤ c3 := (Kd.R_reads' HR3.out).2.1
      rw [hn1] at HZ3
      have hzh : n1 ≤ w3.heap.size := HZ3.out.hn
      clear HR3 hn1 HSC
      obtain ⟨g0, g1, g2⟩ := HZ3.out.cs
      have f2 := HZ3.out.fz 2
      go_upto_region 33 with (fail)
      have HZ4 := Aside0.mk (HZ3.out.put2 (L : Int))
      obtain ⟨w4, hw4⟩ : ∃ w, w3.setCell ⟨b, 2, none⟩ (.int .i64 (L : Int)) = w := ⟨_, rfl⟩
      rw [hw4] at HZ4 ⊢
      clear hw4 g0 g1 g2 f2 HZ3
      have HZD := Aside0.mk (HZ4.out.below (Below.refl _ _).drew)
      have e4 := HZD.out.cs
      clear HZ4
      refine start_ (n := 22) (S := fun w' => w'.cell? ⟨b, 0, none⟩ = some (.int .i64 kd) ∧ w'.cell? ⟨b, 1, none⟩ = some (.string tx) ∧ w'.cell? ⟨b, 2, none⟩ = some (.int .i64 (L : Int))) (ds := []) #[false, false, false, false, false, false, false, false, false, false, false, false, false, false, false, false, false, false, false, false, false, false] (by kernel_rfl) rfl rfl e4 (fun hHeld => ?_)
      generalize w4.drew = wd at HZD e4 hHeld ⊢
      refine pure_ (i := 0) (N := some 121) (v := ?_) (a' := ?_) #[true, false, false, false, false, false, false, false, false, false, false, false, false, false, false, false, false, false, false, false, false, false] rfl rfl (by kernel_rfl) (fun _ _ _ h => h) (Or.inl ⟨by rfl, ?_⟩) ?_ ?_
      rotate_left
      · intro w'
        go_simp
        with_reducible rfl
      rotate_left
      · simp only [Act.put, List.setIfInBounds_toArray, List.set_cons_zero, List.set_cons_succ, i64_w, i32_w]
        rfl
      refine pure_ (i := 1) (N := some 122) (v := ?_) (a' := ?_) #[true, true, false, false, false, false, false, false, false, false, false, false, false, false, false, false, false, false, false, false, false, false] rfl rfl (by kernel_rfl) (fun _ _ _ h => h) (Or.inl ⟨by rfl, ?_⟩) ?_ ?_
      rotate_left
      · intro w'
        go_simp
        with_reducible rfl
      rotate_left
      · simp only [Act.put, List.setIfInBounds_toArray, List.set_cons_zero, List.set_cons_succ, i64_w, i32_w]
        rfl
      refine pure_ (i := 2) (N := some 123) (v := ?_) (a' := ?_) #[true, true, true, false, false, false, false, false, false, false, false, false, false, false, false, false, false, false, false, false, false, false] rfl rfl (by kernel_rfl) (fun _ _ _ h => h) (Or.inl ⟨by rfl, ?_⟩) ?_ ?_
      rotate_left
      · intro w'
        go_simp
        with_reducible rfl
      rotate_left
      · simp only [Act.put, List.setIfInBounds_toArray, List.set_cons_zero, List.set_cons_succ, i64_w, i32_w]
        rfl
      refine pure_ (i := 3) (N := some 124) (v := ?_) (a' := ?_) #[true, true, true, true, false, false, false, false, false, false, false, false, false, false, false, false, false, false, false, false, false, false] rfl rfl (by kernel_rfl) (fun _ _ _ h => h) (Or.inl ⟨by rfl, ?_⟩) ?_ ?_
      rotate_left
      · intro w'
        go_simp
        with_reducible rfl
      rotate_left
      · simp only [Act.put, List.setIfInBounds_toArray, List.set_cons_zero, List.set_cons_succ, i64_w, i32_w]
        rfl
      refine pure_ (i := 4) (N := some 125) (v := ?_) (a' := ?_) #[true, true, true, true, true, false, false, false, false, false, false, false, false, false, false, false, false, false, false, false, false, false] rfl rfl (by kernel_rfl) (fun _ _ _ h => h) (Or.inl ⟨by rfl, ?_⟩) ?_ ?_
      rotate_left
      · intro w'
        go_simp
        with_reducible rfl
      rotate_left
      · simp only [Act.put, List.setIfInBounds_toArray, List.set_cons_zero, List.set_cons_succ, i64_w, i32_w]
        rfl
      refine take_ (i := 5) (N := some 126) (v := ?_) (a' := ?_) #[true, true, true, true, true, true, false, false, false, false, false, false, false, false, false, false, false, false, false, false, false, false] rfl rfl (by kernel_rfl) (fun _ _ _ h => h) (Or.inl ⟨by rfl, ?_⟩) hHeld ?_ ?_
      rotate_left
      · rintro w' ⟨s0, s1, s2⟩
        go_simp
        with_reducible rfl
      rotate_left
      · simp only [Act.put, List.setIfInBounds_toArray, List.set_cons_zero, List.set_cons_succ, i64_w, i32_w]
        rfl
      refine one_ (i := 6) (N := some 127) #[true, true, true, true, true, true, true, false, false, false, false, false, false, false, false, false, false, false, false, false, false, false] rfl rfl (by kernel_rfl) (by decide) (fun K hK => ?_)
      refine value_ (w1 := ?_) (v := ?_) (by rfl) rfl ?_ ?_
      rotate_left 2
      · go_simp
        constructor
        · rfl
        · rfl
      refine hK.out _ _ (HZD.out.below ((Below.refl _ _).alloc (Nat.le_refl _) _)).cs (fun hHeld1 => ?_)
      clear hK K hHeld
      refine norm_ (a' := ?_) ?_ ?_
      rotate_left
      · show Act.put _ (some 127) _ = _
        simp only [Act.put, List.setIfInBounds_toArray, List.set_cons_zero, List.set_cons_succ, i64_w, i32_w]
        rfl
      refine one_ (i := 7) (N := some 128) #[true, true, true, true, true, true, true, true, false, false, false, false, false, false, false, false, false, false, false, false, false, false] rfl rfl (by kernel_rfl) (by decide) (fun K hK => ?_)
      refine Kd.R_append_step k31 (w0 := W) W.heap.size (by rfl) (.tmp 125) (.tmp 127) 23 31 (.agg #[(.int .i64 0), (.string ⟨#[]⟩), (.int .i64 0)]) 32 rfl Tryz.underlying23 txi31 rfl (by decide) (by omega) (.slice A1 nt c1) tk ⟨kd, tx, (L : Int)⟩ [.int .i64 kd, .string tx, .int .i64 (L : Int)] (fun k => k ≠ b ∧ (k < n1 ∨ w3.heap.size ≤ k)) (fun _ => False) rfl rfl ?aP (fun _ hk => hk.elim) ?aF ?aO ?aB ?aS ?aL ?_
      case aP => exact k31_mkM _ _ _ ⟨kd, tx, (L : Int)⟩
      case aF => exact fun k hk => HZD.out.fresh k hk
      case aO => exact HZD.out.row
      case aB => exact HZD.out.bl
      case aS => exact HZD.out.bl.size
      case aL => rw [HNT.out]; omega
      intro v7 w7 ho hb7 hg7 hat7
      rw [HT.out] at ho
      have HZ7 := Aside0.mk (HZD.out.app ho hb7 hg7)
      obtain ⟨A7, c7, e7⟩ := Kd.R_slice ho
      rw [HLN.out] at e7
      subst e7
      obtain ⟨hz7, hc7, hr7⟩ := Kd.R_reads' ho
      rw [HLN.out] at hr7
      have HEQ := Aside0.mk (show Calls Tryz.prog 8 #[.slice A3 (nt + 1) c3, .slice A7 (nt + 1) c7] w7 fun e w' => e = .returned (.bool true) ∧ Below w7.heap.size w7 w' from eqK_call T (nt + 1) HLN.out (by omega) w7 A3 A7 c3 c7 (HC3.out w7 HZ7.out.kp) hc3 hr7 hc7)
      clear ho hb7 hg7 hat7 hz7 hr7 HZD
      refine hK.out _ _ HZ7.out.cs (fun hHeld2 => ?_)
      clear hK K hHeld1
      refine norm_ (a' := ?_) ?_ ?_
      rotate_left
      · show Act.put _ (some 128) _ = _
        simp only [Act.put, List.setIfInBounds_toArray, List.set_cons_zero, List.set_cons_succ, i64_w, i32_w]
        rfl
      refine one_ (i := 8) (N := some 129) #[true, true, true, true, true, true, true, true, true, false, false, false, false, false, false, false, false, false, false, false, false, false] rfl rfl (by kernel_rfl) (by decide) (fun K hK => ?_)
      refine goes_ Tryz.func8 (by kernel_rfl) rfl #[.slice A3 (nt + 1) c3, .slice A7 (nt + 1) c7] (by rfl) rfl rfl (by first | (simp only [List.map_toArray, List.map_cons, List.map_nil]; done) | (simp only [List.map_toArray, List.map_cons, List.map_nil]; rfl)) ?_
      with_reducible refine HEQ.out.mono ?_
      rintro e w8 ⟨rfl, hb8⟩
      refine ⟨_, rfl, ?_⟩
      have HZ8 := Aside0.mk (HZ7.out.below hb8)
      clear hb8 HEQ HZ7
      refine hK.out _ _ HZ8.out.cs (fun hHeld3 => ?_)
      clear hK K hHeld2
      refine norm_ (a' := ?_) ?_ ?_
      rotate_left
      · show Act.put _ (some 129) _ = _
        simp only [Act.put, List.setIfInBounds_toArray, List.set_cons_zero, List.set_cons_succ, i64_w, i32_w]
        rfl
      refine pure_ (i := 9) (N := some 130) (v := ?_) (a' := ?_) #[true, true, true, true, true, true, true, true, true, true, false, false, false, false, false, false, false, false, false, false, false, false] rfl rfl (by kernel_rfl) (fun _ _ _ h => h) (Or.inl ⟨by rfl, ?_⟩) ?_ ?_
      rotate_left
      · intro w'
        go_simp
        with_reducible rfl
      rotate_left
      · simp only [Act.put, List.setIfInBounds_toArray, List.set_cons_zero, List.set_cons_succ, i64_w, i32_w]
        rfl
      refine pure_ (i := 10) (N := some 131) (v := ?_) (a' := ?_) #[true, true, true, true, true, true, true, true, true, true, true, false, false, false, false, false, false, false, false, false, false, false] rfl rfl (by kernel_rfl) (fun _ _ _ h => h) (Or.inl ⟨by rfl, ?_⟩) ?_ ?_
      rotate_left
      · intro w'
        go_simp
        with_reducible rfl
      rotate_left
      · simp only [Act.put, List.setIfInBounds_toArray, List.set_cons_zero, List.set_cons_succ, i64_w, i32_w]
        rfl
      refine pure_ (i := 11) (N := some 132) (v := ?_) (a' := ?_) #[true, true, true, true, true, true, true, true, true, true, true, true, false, false, false, false, false, false, false, false, false, false] rfl rfl (by kernel_rfl) (fun _ _ _ h => h) (Or.inl ⟨by rfl, ?_⟩) ?_ ?_
      rotate_left
      · intro w'
        go_simp
        with_reducible rfl
      rotate_left
      · simp only [Act.put, List.setIfInBounds_toArray, List.set_cons_zero, List.set_cons_succ, i64_w, i32_w]
        rfl
      refine pure_ (i := 13) (N := some 134) (v := ?_) (a' := ?_) #[true, true, true, true, true, true, true, true, true, true, true, true, false, true, false, false, false, false, false, false, false, false] rfl rfl (by kernel_rfl) (fun _ _ _ h => h) (Or.inl ⟨by rfl, ?_⟩) ?_ ?_
      rotate_left
      · intro w'
        go_simp
        with_reducible rfl
      rotate_left
      · simp only [Act.put, List.setIfInBounds_toArray, List.set_cons_zero, List.set_cons_succ, i64_w, i32_w]
        rfl
      refine take_ (i := 14) (N := some 135) (v := ?_) (a' := ?_) #[true, true, true, true, true, true, true, true, true, true, true, true, false, true, true, false, false, false, false, false, false, false] rfl rfl (by kernel_rfl) (fun _ _ _ h => h) (Or.inl ⟨by rfl, ?_⟩) hHeld3 ?_ ?_
      rotate_left
      · rintro w' ⟨s0, s1, s2⟩
        go_simp
        with_reducible rfl
      rotate_left
      · simp only [Act.put, List.setIfInBounds_toArray, List.set_cons_zero, List.set_cons_succ, i64_w, i32_w]
        rfl
      refine pure_ (i := 15) (N := some 136) (v := ?_) (a' := ?_) #[true, true, true, true, true, true, true, true, true, true, true, true, false, true, true, true, false, false, false, false, false, false] rfl rfl (by kernel_rfl) (fun _ _ _ h => h) (Or.inl ⟨by rfl, ?_⟩) ?_ ?_
      rotate_left
      · intro w'
        go_simp
        with_reducible rfl
      rotate_left
      · simp only [Act.put, List.setIfInBounds_toArray, List.set_cons_zero, List.set_cons_succ, i64_w, i32_w]
        rfl
      refine one_ (i := 12) (N := some 133) #[true, true, true, true, true, true, true, true, true, true, true, true, true, true, true, true, false, false, false, false, false, false] rfl rfl (by kernel_rfl) (by decide) (fun K hK => ?_)
      refine goes_ Tryz.func12 (by kernel_rfl) rfl #[.string bad] (by rfl) rfl rfl (by first | (simp only [List.map_toArray, List.map_cons, List.map_nil]; done) | (simp only [List.map_toArray, List.map_cons, List.map_nil]; rfl)) ?_
      with_reducible refine (token_Is.calls bad q _ HIS.out).mono ?_
      rintro e w9 ⟨rfl, hb9⟩
      refine ⟨_, rfl, ?_⟩
      have HZ9 := Aside0.mk (HZ8.out.below hb9)
      clear hb9 HZ8
      refine hK.out _ _ HZ9.out.cs (fun hHeld4 => ?_)
      clear hK K hHeld3
      refine norm_ (a' := ?_) ?_ ?_
      rotate_left
      · show Act.put _ (some 133) _ = _
        simp only [Act.put, List.setIfInBounds_toArray, List.set_cons_zero, List.set_cons_succ, i64_w, i32_w]
        rfl
      refine pure_ (i := 16) (N := some 137) (v := ?_) (a' := ?_) #[true, true, true, true, true, true, true, true, true, true, true, true, true, true, true, true, true, false, false, false, false, false] rfl rfl (by kernel_rfl) (fun _ _ _ h => h) (Or.inl ⟨by rfl, ?_⟩) ?_ ?_
      rotate_left
      · intro w'
        go_simp
        with_reducible rfl
      rotate_left
      · simp only [Act.put, List.setIfInBounds_toArray, List.set_cons_zero, List.set_cons_succ, i64_w, i32_w]
        rfl
      refine pure_ (i := 17) (N := some 138) (v := ?_) (a' := ?_) #[true, true, true, true, true, true, true, true, true, true, true, true, true, true, true, true, true, true, false, false, false, false] rfl rfl (by kernel_rfl) (fun _ _ _ h => h) (Or.inl ⟨by rfl, ?_⟩) ?_ ?_
      rotate_left
      · intro w'
        go_simp
        with_reducible rfl
      rotate_left
      · simp only [Act.put, List.setIfInBounds_toArray, List.set_cons_zero, List.set_cons_succ, i64_w, i32_w]
        rfl
      refine pure_ (i := 18) (N := some 139) (v := ?_) (a' := ?_) #[true, true, true, true, true, true, true, true, true, true, true, true, true, true, true, true, true, true, true, false, false, false] rfl rfl (by kernel_rfl) (fun _ _ _ h => h) (Or.inl ⟨by rfl, ?_⟩) ?_ ?_
      rotate_left
      · intro w'
        go_simp
        with_reducible rfl
      rotate_left
      · simp only [Act.put, List.setIfInBounds_toArray, List.set_cons_zero, List.set_cons_succ, i64_w, i32_w]
        rfl
      refine one_ (i := 19) (N := some 140) #[true, true, true, true, true, true, true, true, true, true, true, true, true, true, true, true, true, true, true, true, false, false] rfl rfl (by kernel_rfl) (by decide) (fun K hK => ?_)
      refine goes_ Tryz.func10 (by kernel_rfl) rfl #[] (by rfl) rfl rfl (by simp) ?_
      with_reducible refine (works_calls _).mono ?_
      rintro e w10 ⟨rfl, hb10⟩
      refine ⟨_, rfl, ?_⟩
      have HZ10 := Aside0.mk (HZ9.out.below hb10)
      clear hb10 HZ9
      refine hK.out _ _ HZ10.out.cs (fun hHeld5 => ?_)
      clear hK K hHeld4
      refine norm_ (a' := ?_) ?_ ?_
      rotate_left
      · show Act.put _ (some 140) _ = _
        simp only [Act.put, List.setIfInBounds_toArray, List.set_cons_zero, List.set_cons_succ, i64_w, i32_w]
        rfl
      refine pure_ (i := 20) (N := some 141) (v := ?_) (a' := ?_) #[true, true, true, true, true, true, true, true, true, true, true, true, true, true, true, true, true, true, true, true, true, false] rfl rfl (by kernel_rfl) (fun _ _ _ h => h) (Or.inl ⟨by rfl, ?_⟩) ?_ ?_
      rotate_left
      · intro w'
        go_simp
        with_reducible rfl
      rotate_left
      · simp only [Act.put, List.setIfInBounds_toArray, List.set_cons_zero, List.set_cons_succ, i64_w, i32_w]
        rfl
      refine pure_ (i := 21) (N := some 6) (v := ?_) (a' := ?_) #[true, true, true, true, true, true, true, true, true, true, true, true, true, true, true, true, true, true, true, true, true, true] rfl rfl (by kernel_rfl) (fun _ _ _ h => h) (Or.inl ⟨by rfl, ?_⟩) ?_ ?_
      rotate_left
      · intro w'
        go_simp
        with_reducible rfl
      rotate_left
      · simp only [Act.put, List.setIfInBounds_toArray, List.set_cons_zero, List.set_cons_succ, i64_w, i32_w]
        rfl
      refine Go.Proofs.YtlpoglkddknedaaGreatDoorW.PrintLast.done_ (by kernel_rfl) ?_
      clear hHeld5
      go_wp2
      go_ret
      exact ⟨rfl, HZ10.out.bl⟩
  clear hK
  have hcases : y = 0 ∨ y = 1 ∨ y = 2 ∨ y = 3 ∨ y = 4 ∨ y = 5 ∨ y = 6 := by omega
  rcases hcases with rfl | rfl | rfl | rfl | rfl | rfl | rfl
  · have hz : (rep [45] k).size = k := by rw [Go.Proofs.YtlpoglkddknedaaGreatDoor.P.rep_size]; simp
    go_upto_region 10 with (first
      | (go_at_call 11; (with_reducible refine (repeat_call [45] (by decide) (by decide) k hk6 _).mono ?_); rintro e w3 ⟨rfl, hb3⟩; obtain ⟨s0, q0, s1, q1, s2, q2, hx⟩ := (HX.out.below hb3).sto 2 (⟨#[97]⟩ ++ rep [45] k); have HX3 := Aside0.mk hx; clear hb3 hx))
    obtain ⟨w4, hw4⟩ : ∃ w, ((w3.setCell ⟨b, 0, none⟩ (.int .i64 2)).setCell ⟨b, 1, none⟩ (.string (⟨#[97]⟩ ++ rep [45] k))).setCell ⟨b, 2, none⟩ (.int .i64 0) = w := ⟨_, rfl⟩
    rw [hw4] at HX3 ⊢
    clear hw4 s0 q0 s1 q1 s2 q2
    obtain ⟨g0, g1, g2⟩ := HX3.out.cs
    have f0 := HX3.out.fz 0
    by_cases hb : 254 < k
    · have hbi : (254 : Int) < k := by omega
      go_wp2
      exact HJ (fun i => List.getD [undef, undef, undef, undef, undef, undef, undef, undef, undef, undef, undef, undef, undef, undef, undef, _, _, _, _, _, _, _, _, _, _, _, _, _, _, _, _, _, _, _, _, _, _, _, _, _, _, _, _, _, _, _, _, _, _, _, _, _, _, _, _, _, _, _, _, _, _, _, _, _, _, _, _, _, _, _, _, _, _, _, _, _, _, _, _, _, _, _, _, _, _, _, _, _, _, _, _, _, _, _, _, _, _, _, _, _, _, _, _, _, _, _, _, _, _, _, _, _, _, _, _, _, _, _, _, _, _, _, _, _, _, _, _, _, _, _, _, _, _, _, _, _, _, _, _, _, _, _] i undef) _ 0 _ _ (by have h := Go.Proofs.YtlpoglkddknedaaGreatDoor.P.long0 k hk6; rw [if_pos hb] at h; exact h) (Lib.hid (HX3.out.put0 0))
    · have hbi : (k : Int) ≤ 254 := by omega
      go_wp2
      exact HJ (fun i => List.getD [undef, undef, undef, undef, undef, undef, undef, undef, undef, undef, undef, undef, undef, undef, undef, _, _, _, _, _, _, _, _, _, _, _, _, _, _, _, _, _, _, _, _, _, _, _, _, _, _, _, _, _, _, _, _, _, _, _, _, _, _, _, _, _, _, _, _, _, _, _, _, _, _, _, _, _, _, _, _, _, _, _, _, _, _, _, _, _, _, _, _, _, _, _, _, _, _, _, _, _, _, _, _, _, _, _, _, _, _, _, _, _, _, _, _, _, _, _, _, _, _, _, _, _, _, _, _, _, _, _, _, _, _, _, _, _, _, _, _, _, _, _, _, _, _, _, _, _, _, _] i undef) _ 2 _ _ (by have h := Go.Proofs.YtlpoglkddknedaaGreatDoor.P.long0 k hk6; rw [if_neg hb] at h; exact h) (Lib.hid (HX3.out))
  · have hz : (rep [92, 92] k).size = k * 2 := by rw [Go.Proofs.YtlpoglkddknedaaGreatDoor.P.rep_size]; simp
    go_upto_region 15 with (first
      | (go_at_call 11; (with_reducible refine (repeat_call [92] (by decide) (by decide) k hk6 _).mono ?_); rintro e w3 ⟨rfl, hb3⟩; obtain ⟨s0, q0, s1, q1, s2, q2, hx⟩ := (HX.out.below hb3).sto 1 (rep [92] k); have HX3 := Aside0.mk hx; clear hb3 hx))
    obtain ⟨w4, hw4⟩ : ∃ w, ((w3.setCell ⟨b, 0, none⟩ (.int .i64 1)).setCell ⟨b, 1, none⟩ (.string (rep [92] k))).setCell ⟨b, 2, none⟩ (.int .i64 0) = w := ⟨_, rfl⟩
    rw [hw4] at HX3 ⊢
    clear hw4 s0 q0 s1 q1 s2 q2
    obtain ⟨g0, g1, g2⟩ := HX3.out.cs
    have f0 := HX3.out.fz 0
    clear g0 g1 g2 f0
    go_upto_region 16 with (first
      | (go_at_call 11; (with_reducible refine (repeat_call [92, 92] (by decide) (by decide) k hk6 _).mono ?_); rintro e w5 ⟨rfl, hb5⟩; have HX5 := Aside0.mk (HX3.out.below hb5); clear hb5))
    obtain ⟨g0, g1, g2⟩ := HX5.out.cs
    have f0 := HX5.out.fz 0
    by_cases hb : 255 < k
    · have hbi : (255 : Int) < k := by omega
      go_wp2
      exact HJ (fun i => List.getD [undef, undef, undef, undef, undef, undef, undef, undef, undef, undef, undef, undef, undef, undef, undef, _, _, _, _, _, _, _, _, _, _, _, _, _, _, _, _, _, _, _, _, _, _, _, _, _, _, _, _, _, _, _, _, _, _, _, _, _, _, _, _, _, _, _, _, _, _, _, _, _, _, _, _, _, _, _, _, _, _, _, _, _, _, _, _, _, _, _, _, _, _, _, _, _, _, _, _, _, _, _, _, _, _, _, _, _, _, _, _, _, _, _, _, _, _, _, _, _, _, _, _, _, _, _, _, _, _, _, _, _, _, _, _, _, _, _, _, _, _, _, _, _, _, _, _, _, _, _] i undef) _ 0 _ _ (by have h := Go.Proofs.YtlpoglkddknedaaGreatDoor.P.long1 k hk6; rw [if_pos hb] at h; exact h) (Lib.hid (HX5.out.put0 0))
    · have hbi : (k : Int) ≤ 255 := by omega
      go_wp2
      exact HJ (fun i => List.getD [undef, undef, undef, undef, undef, undef, undef, undef, undef, undef, undef, undef, undef, undef, undef, _, _, _, _, _, _, _, _, _, _, _, _, _, _, _, _, _, _, _, _, _, _, _, _, _, _, _, _, _, _, _, _, _, _, _, _, _, _, _, _, _, _, _, _, _, _, _, _, _, _, _, _, _, _, _, _, _, _, _, _, _, _, _, _, _, _, _, _, _, _, _, _, _, _, _, _, _, _, _, _, _, _, _, _, _, _, _, _, _, _, _, _, _, _, _, _, _, _, _, _, _, _, _, _, _, _, _, _, _, _, _, _, _, _, _, _, _, _, _, _, _, _, _, _, _, _, _] i undef) _ 1 _ _ (by have h := Go.Proofs.YtlpoglkddknedaaGreatDoor.P.long1 k hk6; rw [if_neg hb] at h; exact h) (Lib.hid (HX5.out))
  · have hz : (rep [55] k).size = k := by rw [Go.Proofs.YtlpoglkddknedaaGreatDoor.P.rep_size]; simp
    go_upto_region 20 with (first
      | (go_at_call 11; (with_reducible refine (repeat_call [55] (by decide) (by decide) k hk6 _).mono ?_); rintro e w3 ⟨rfl, hb3⟩; obtain ⟨s0, q0, s1, q1, s2, q2, hx⟩ := (HX.out.below hb3).sto 9 (rep [55] k); have HX3 := Aside0.mk hx; clear hb3 hx))
    obtain ⟨w4, hw4⟩ : ∃ w, ((w3.setCell ⟨b, 0, none⟩ (.int .i64 9)).setCell ⟨b, 1, none⟩ (.string (rep [55] k))).setCell ⟨b, 2, none⟩ (.int .i64 0) = w := ⟨_, rfl⟩
    rw [hw4] at HX3 ⊢
    clear hw4 s0 q0 s1 q1 s2 q2
    obtain ⟨g0, g1, g2⟩ := HX3.out.cs
    have f0 := HX3.out.fz 0
    by_cases hb : k < 1 ∨ 3 < k
    · rcases hb with hb | hb
      · have hbi : (k : Int) < 1 := by omega
        go_wp2
        exact HJ (fun i => List.getD [undef, undef, undef, undef, undef, undef, undef, undef, undef, undef, undef, undef, undef, undef, undef, _, _, _, _, _, _, _, _, _, _, _, _, _, _, _, _, _, _, _, _, _, _, _, _, _, _, _, _, _, _, _, _, _, _, _, _, _, _, _, _, _, _, _, _, _, _, _, _, _, _, _, _, _, _, _, _, _, _, _, _, _, _, _, _, _, _, _, _, _, _, _, _, _, _, _, _, _, _, _, _, _, _, _, _, _, _, _, _, _, _, _, _, _, _, _, _, _, _, _, _, _, _, _, _, _, _, _, _, _, _, _, _, _, _, _, _, _, _, _, _, _, _, _, _, _, _, _] i undef) _ 0 _ _ (by have h := Go.Proofs.YtlpoglkddknedaaGreatDoor.P.long2 k hk6; rw [if_pos (.inl hb)] at h; exact h) (Lib.hid (HX3.out.put0 0))
      · have hbi : ¬ (k : Int) < 1 := by omega
        have hbj : (3 : Int) < k := by omega
        go_wp2
        exact HJ (fun i => List.getD [undef, undef, undef, undef, undef, undef, undef, undef, undef, undef, undef, undef, undef, undef, undef, _, _, _, _, _, _, _, _, _, _, _, _, _, _, _, _, _, _, _, _, _, _, _, _, _, _, _, _, _, _, _, _, _, _, _, _, _, _, _, _, _, _, _, _, _, _, _, _, _, _, _, _, _, _, _, _, _, _, _, _, _, _, _, _, _, _, _, _, _, _, _, _, _, _, _, _, _, _, _, _, _, _, _, _, _, _, _, _, _, _, _, _, _, _, _, _, _, _, _, _, _, _, _, _, _, _, _, _, _, _, _, _, _, _, _, _, _, _, _, _, _, _, _, _, _, _, _] i undef) _ 0 _ _ (by have h := Go.Proofs.YtlpoglkddknedaaGreatDoor.P.long2 k hk6; rw [if_pos (.inr hb)] at h; exact h) (Lib.hid (HX3.out.put0 0))
    · have hbi : ¬ (k : Int) < 1 := by omega
      have hbj : (k : Int) ≤ 3 := by omega
      go_wp2
      exact HJ (fun i => List.getD [undef, undef, undef, undef, undef, undef, undef, undef, undef, undef, undef, undef, undef, undef, undef, _, _, _, _, _, _, _, _, _, _, _, _, _, _, _, _, _, _, _, _, _, _, _, _, _, _, _, _, _, _, _, _, _, _, _, _, _, _, _, _, _, _, _, _, _, _, _, _, _, _, _, _, _, _, _, _, _, _, _, _, _, _, _, _, _, _, _, _, _, _, _, _, _, _, _, _, _, _, _, _, _, _, _, _, _, _, _, _, _, _, _, _, _, _, _, _, _, _, _, _, _, _, _, _, _, _, _, _, _, _, _, _, _, _, _, _, _, _, _, _, _, _, _, _, _, _, _] i undef) _ 9 _ _ (by have h := Go.Proofs.YtlpoglkddknedaaGreatDoor.P.long2 k hk6; rw [if_neg hb] at h; exact h) (Lib.hid (HX3.out))
  · have hz : (rep [40] k).size = k := by rw [Go.Proofs.YtlpoglkddknedaaGreatDoor.P.rep_size]; simp
    go_wp2_with (first
      | (go_at_call 11; (with_reducible refine (repeat_call [40] (by decide) (by decide) k hk6 _).mono ?_); rintro e w3 ⟨rfl, hb3⟩; have HX3 := Aside0.mk (HX.out.below hb3); clear hb3))
    exact HJ (fun i => List.getD [undef, undef, undef, undef, undef, undef, undef, undef, undef, undef, undef, undef, undef, undef, undef, _, _, _, _, _, _, _, _, _, _, _, _, _, _, _, _, _, _, _, _, _, _, _, _, _, _, _, _, _, _, _, _, _, _, _, _, _, _, _, _, _, _, _, _, _, _, _, _, _, _, _, _, _, _, _, _, _, _, _, _, _, _, _, _, _, _, _, _, _, _, _, _, _, _, _, _, _, _, _, _, _, _, _, _, _, _, _, _, _, _, _, _, _, _, _, _, _, _, _, _, _, _, _, _, _, _, _, _, _, _, _, _, _, _, _, _, _, _, _, _, _, _, _, _, _, _, _] i undef) _ 0 _ _ (by exact Go.Proofs.YtlpoglkddknedaaGreatDoor.P.long3 k hk6 _) (Lib.hid (HX3.out))
  · have hz : (rep [40] k).size = k := by rw [Go.Proofs.YtlpoglkddknedaaGreatDoor.P.rep_size]; simp
    go_wp2_with (first
      | (go_at_call 11; (with_reducible refine (repeat_call [40] (by decide) (by decide) k hk6 _).mono ?_); rintro e w3 ⟨rfl, hb3⟩; have HX3 := Aside0.mk (HX.out.below hb3); clear hb3))
    exact HJ (fun i => List.getD [undef, undef, undef, undef, undef, undef, undef, undef, undef, undef, undef, undef, undef, undef, undef, _, _, _, _, _, _, _, _, _, _, _, _, _, _, _, _, _, _, _, _, _, _, _, _, _, _, _, _, _, _, _, _, _, _, _, _, _, _, _, _, _, _, _, _, _, _, _, _, _, _, _, _, _, _, _, _, _, _, _, _, _, _, _, _, _, _, _, _, _, _, _, _, _, _, _, _, _, _, _, _, _, _, _, _, _, _, _, _, _, _, _, _, _, _, _, _, _, _, _, _, _, _, _, _, _, _, _, _, _, _, _, _, _, _, _, _, _, _, _, _, _, _, _, _, _, _, _] i undef) _ 0 _ _ (by exact Go.Proofs.YtlpoglkddknedaaGreatDoor.P.long4 k hk6 _) (Lib.hid (HX3.out))
  · have hwr := wrong_cell w2 k
    simp only [Go.Proofs.YtlpoglkddknedaaGreatDoor.P.wrongs, List.map_cons, List.map_nil] at hwr
    have HX3 := Aside0.mk (HX.out.below ((Below.refl w2.heap.size w2).alloc (Nat.le_refl _) (.cells #[.string ⟨#[43]⟩, .string ⟨#[35]⟩, .string ⟨#[61]⟩, .string ⟨#[58]⟩, .string ⟨#[45]⟩, .string ⟨#[47]⟩, .string ⟨#[95]⟩, .string ⟨#[125]⟩, .string ⟨#[0]⟩, .string ⟨#[127]⟩, .string ⟨#[233]⟩, .string ⟨#[126]⟩, .string ⟨#[64]⟩, .string ⟨#[94]⟩, .string ⟨#[38]⟩, .string ⟨#[39]⟩, .string ⟨#[96]⟩, .string ⟨#[44]⟩, .string ⟨#[60]⟩, .string ⟨#[62]⟩, .string ⟨#[124]⟩, .string ⟨#[11]⟩, .string ⟨#[12]⟩] 9)))
    go_wp2
    exact HJ (fun i => List.getD [undef, undef, undef, undef, undef, undef, undef, undef, undef, undef, undef, undef, undef, undef, undef, _, _, _, _, _, _, _, _, _, _, _, _, _, _, _, _, _, _, _, _, _, _, _, _, _, _, _, _, _, _, _, _, _, _, _, _, _, _, _, _, _, _, _, _, _, _, _, _, _, _, _, _, _, _, _, _, _, _, _, _, _, _, _, _, _, _, _, _, _, _, _, _, _, _, _, _, _, _, _, _, _, _, _, _, _, _, _, _, _, _, _, _, _, _, _, _, _, _, _, _, _, _, _, _, _, _, _, _, _, _, _, _, _, _, _, _, _, _, _, _, _, _, _, _, _, _, _] i undef) _ 0 _ _ (by exact Go.Proofs.YtlpoglkddknedaaGreatDoor.P.long5 k _) (Lib.hid (HX3.out))
  · have hz : (rep [125, 123] k).size = k * 2 := by rw [Go.Proofs.YtlpoglkddknedaaGreatDoor.P.rep_size]; simp
    go_upto_region 7 with (first
      | (go_at_call 11; (with_reducible refine (repeat_call [125, 123] (by decide) (by decide) k hk6 _).mono ?_); rintro e w3 ⟨rfl, hb3⟩; obtain ⟨s0, q0, s1, q1, s2, q2, hx⟩ := (HX.out.below hb3).sto 10 (rep [125, 123] k); have HX3 := Aside0.mk hx; clear hb3 hx))
    obtain ⟨w4, hw4⟩ : ∃ w, ((w3.setCell ⟨b, 0, none⟩ (.int .i64 10)).setCell ⟨b, 1, none⟩ (.string (rep [125, 123] k))).setCell ⟨b, 2, none⟩ (.int .i64 0) = w := ⟨_, rfl⟩
    rw [hw4] at HX3 ⊢
    clear hw4 s0 q0 s1 q1 s2 q2
    obtain ⟨g0, g1, g2⟩ := HX3.out.cs
    have f0 := HX3.out.fz 0
    go_wp2
    exact HJ (fun i => List.getD [undef, undef, undef, undef, undef, undef, undef, undef, undef, undef, undef, undef, undef, undef, undef, _, _, _, _, _, _, _, _, _, _, _, _, _, _, _, _, _, _, _, _, _, _, _, _, _, _, _, _, _, _, _, _, _, _, _, _, _, _, _, _, _, _, _, _, _, _, _, _, _, _, _, _, _, _, _, _, _, _, _, _, _, _, _, _, _, _, _, _, _, _, _, _, _, _, _, _, _, _, _, _, _, _, _, _, _, _, _, _, _, _, _, _, _, _, _, _, _, _, _, _, _, _, _, _, _, _, _, _, _, _, _, _, _, _, _, _, _, _, _, _, _, _, _, _, _, _, _] i undef) _ 10 _ _ (by exact Go.Proofs.YtlpoglkddknedaaGreatDoor.P.long6 k hk6) (Lib.hid (HX3.out))
end Go.Proofs.YtlpoglkddknedaaGreatDoor.R

/- TokenJoins walked: it answers true. Conditions: the pieces' numbers are bytes, no list is longer than the rows allow, the library's number lies at cell 0. -/
import Derived.Test.YtlpoglkddknedaaGreatDoorUb
import Derived.Test.YtlpoglkddknedaaGreatDoorPj
namespace Go.Proofs.YtlpoglkddknedaaGreatDoor.R
open Go.RowKit Go.Lib Go.Proofs.YtlpoglkddknedaaGreatDoor.T Go.Proofs.YtlpoglkddknedaaGreatDoor.H Go.Proofs.YtlpoglkddknedaaGreatDoorW.PrintWords Go.Proofs.YtlpoglkddknedaaGreatDoorW.PrintLast
set_option linter.unusedVariables false
set_option linter.unusedSimpArgs false
/-- A call that scans a string. -/
theorem scan_row_call (a : ByteArray) (t : List S31) (r2 r3 : Int) (n : Nat) (hn : t.length = n) (h : scanF a = some (t, r2, r3)) (w : World) :
    Calls Tryz.prog 7 #[.string a] w fun e w' => ∃ A1 c1, e = .returned (.tuple #[.slice A1 n c1, .int .i64 r2, .int .i64 r3]) ∧ Kd.R k31 31 w' w.heap.size (fun _ => True) (.slice A1 n c1) t ∧ Below w.heap.size w w' := by
  refine (token_Scan.calls a t r2 r3 w h).mono ?_
  rintro e w' ⟨v, rfl, hr, hb⟩
  obtain ⟨A1, c1, rfl⟩ := Kd.R_slice hr
  rw [hn] at hr ⊢
  exact ⟨A1, c1, rfl, hr, hb⟩
theorem text_row_call (W : World) (A : Option Addr) (c : Nat) (P : List Pc) (hP : PiecesAt W A P) (hc : P.length ≤ c) (hok : ∀ p ∈ P, p.ok) (mm : Int) (hmm : W.cell? ⟨0, 0, none⟩ = some (.int .i64 mm))
    (m nt : Nat) (s : ByteArray) (tk : List S31) (hm : P.length = m) (hs : (⟨(textS (P.take 20)).1.toArray⟩ : ByteArray) = s) (htk : (textS (P.take 20)).2 = tk) (hnt : tk.length = nt) :
    Calls Tryz.prog 6 #[.slice A m c] W fun e w' => ∃ A1 c1, e = .returned (.tuple #[.string s, .slice A1 nt c1]) ∧ Kd.R k31 31 w' W.heap.size (fun _ => True) (.slice A1 nt c1) tk ∧ Below W.heap.size W w' := by
  rw [← hm]
  refine (text_call W A c P hP hc hok (fun p _ => Nat.le_trans (Go.Proofs.YtlpoglkddknedaaGreatDoor.P.piece_size p) (by omega)) (fun p _ o r => Nat.le_trans (Go.Proofs.YtlpoglkddknedaaGreatDoor.P.comText_size p.B o r) (by omega)) mm hmm).mono ?_
  rintro e w' ⟨vt, rfl, hr, hb⟩
  rw [hs]
  rw [htk] at hr
  obtain ⟨A1, c1, rfl⟩ := Kd.R_slice hr
  rw [hnt] at hr ⊢
  exact ⟨A1, c1, rfl, hr, hb⟩
/-- The sizes of a text. -/
theorem text_sizes (P : List Pc) : (⟨(textS (P.take 20)).1.toArray⟩ : ByteArray).size ≤ 20000 ∧ (textS (P.take 20)).2.length ≤ 20 := by
  have hl : (P.take 20).length ≤ 20 := by rw [List.length_take]; omega
  have hb := Go.Proofs.YtlpoglkddknedaaGreatDoor.P.bytesR_len (P.take 20)
  refine ⟨?_, by rw [textS_toks]; exact hl⟩
  rw [Go.Proofs.YtlpoglkddknedaaGreatDoor.P.textR, size_mk]
  dsimp only
  omega
/-- The loop of TokenJoins: the row of tokens, and what is kept. -/
structure JX (W w3 : World) (n1 : Nat) (v : Value) (l : List S31) (w : World) : Prop where
  row : Kd.R k31 31 w W.heap.size (fun k => k < n1 ∨ w3.heap.size ≤ k) v l
  bl : Below W.heap.size W w
  kp : Kept w3 w (fun k => k < n1)
section
variable {W w3 w w1 : World} {n1 : Nat} {v : Value} {l : List S31}
theorem JX.below (h : JX W w3 n1 v l w) (hb : Below w.heap.size w w1) : JX W w3 n1 v l w1 where
  row := Kd.R_below h.row hb
  bl := h.bl.trans (hb.mono h.bl.size)
  kp := h.kp.below hb
theorem JX.app (h : JX W w3 n1 v l w) {v1 : Value} {l1 : List S31} (ho : Kd.R k31 31 w1 W.heap.size (fun k => k < n1 ∨ w3.heap.size ≤ k) v1 l1) (hb : Below W.heap.size W w1) (hg : w.grownBy w1 v.ownBlock) : JX W w3 n1 v1 l1 w1 where
  row := ho
  bl := hb
  kp := Kept.of_grown hg h.kp (fun k e => h.row.1 k e)
theorem JX.fresh (h : JX W w3 n1 v l w) (k : Nat) (hk : w.heap.size ≤ k) : k < n1 ∨ w3.heap.size ≤ k := .inr (Nat.le_trans h.kp.1 hk)
end
theorem map_take_snoc {t : List S31} {k : Nat} (hk : k < t.length) (f : S31 → S31) : (t.take (k + 1)).map f = (t.take k).map f ++ [f t[k]] := by
  rw [List.take_succ_eq_append_getElem hk, List.map_append]
  rfl
set_option maxRecDepth 100000 in
set_option maxHeartbeats 8000000 in
theorem joins_call (W : World) (A : Option Addr) (c : Nat) (P : List Pc) (hP : PiecesAt W A P) (hc : P.length ≤ c) (hok : ∀ p ∈ P, p.ok) (mm : Int) (hmm : W.cell? ⟨0, 0, none⟩ = some (.int .i64 mm)) (a : ByteArray) :
    Calls Tryz.prog 4 #[.slice A P.length c, .string a] W fun e w' => e = .returned (.bool true) ∧ Below W.heap.size W w' := by
  obtain ⟨m, hm⟩ : ∃ m, P.length = m := ⟨_, rfl⟩
  by_cases hbig : 500 < a.size
  · have a1 : (500 : Int) < a.size := by omega
    rw [hm]
    go_enter Tryz.func4, Tryz.ntmps4
    go_wp2_with (first
      | (go_at_call 10; (with_reducible refine (works_calls _).mono ?_); rintro e w6 ⟨rfl, hb6⟩; have HB6 := Aside0.mk hb6; clear hb6))
    go_ret
    exact ⟨rfl, HB6.out⟩
  · have a1 : (a.size : Int) ≤ 500 := by omega
    obtain ⟨hss, htl⟩ := text_sizes P
    obtain ⟨s, hs⟩ : ∃ s, (⟨(textS (P.take 20)).1.toArray⟩ : ByteArray) = s := ⟨_, rfl⟩
    obtain ⟨tk, htk⟩ : ∃ tk, (textS (P.take 20)).2 = tk := ⟨_, rfl⟩
    obtain ⟨nt, hnt⟩ : ∃ nt, tk.length = nt := ⟨_, rfl⟩
    obtain ⟨L, hL⟩ : ∃ L, s.size = L := ⟨_, rfl⟩
    obtain ⟨t, R, ⟨ht1, ht2⟩, hR, hF1, hF2⟩ := Go.Proofs.YtlpoglkddknedaaGreatDoor.P.joins_law P (fun p hp => (hok p hp).2.1.1) a (by omega) s hs.symm L hL
    have HTX := Aside0.mk (text_row_call W A c P hP hc hok mm hmm m nt s tk hm hs htk hnt)
    rw [hs, hL] at hss
    rw [htk] at htl hF2
    rw [hnt] at htl
    have hap : ¬ (9223372036854775807 : Nat) < L + 1 := by omega
    have hap2 : ¬ (9223372036854775807 : Nat) < L + 1 + a.size := by omega
    rw [hm]
    clear hP hc hok hmm hs htk hm
    by_cases hR0 : 0 ≤ R
    · rw [if_pos hR0] at hF1 hF2
      have HSC := Aside0.mk (scan_row_call a [] R 8 0 rfl hF1)
      have HSC2 := Aside0.mk (scan_row_call (s ++ ⟨#[10]⟩ ++ a) [] (R + ((L + 1 : Nat) : Int)) 8 0 rfl hF2)
      clear hF1 hF2
      go_enter Tryz.func4, Tryz.ntmps4
      go_upto_region 7 with (first
        | (go_at_call 6; (with_reducible refine HTX.out.mono ?_); rintro e w1 ⟨A1, c1, rfl, hr1, hb1⟩; have HR1 := Aside0.mk hr1; have HB1 := Aside0.mk hb1; clear hr1 hb1)
        | (go_at_call 7; (with_reducible refine (HSC.out _).mono ?_); rintro e w2 ⟨A2, c2, rfl, hr2, hb2⟩; have HB2 := Aside0.mk (HB1.out.trans (hb2.mono HB1.out.size)); clear hr2 hb2)
        | (go_at_call 7; (with_reducible refine (HSC2.out _).mono ?_); rintro e w3 ⟨A3, c3, rfl, hr3, hb3⟩; have HB3 := Aside0.mk (HB2.out.trans (hb3.mono HB2.out.size)); clear hr3 hb3))
      go_wp2_with (first
        | (go_at_call 10; (with_reducible refine (works_calls _).mono ?_); rintro e w6 ⟨rfl, hb6⟩; have HB6 := Aside0.mk (HB3.out.trans (hb6.mono HB3.out.size)); clear hb6))
      go_ret
      exact ⟨rfl, HB6.out⟩
    · rw [if_neg hR0] at hF1 hF2
      obtain ⟨n2, hn2⟩ : ∃ n, t.length = n := ⟨_, rfl⟩
      obtain ⟨T, hT⟩ : ∃ T, tk ++ t.map (Go.Proofs.YtlpoglkddknedaaGreatDoor.P.shT (L + 1)) = T := ⟨_, rfl⟩
      have hn3 : T.length = nt + n2 := by rw [← hT, List.length_append, List.length_map, hnt, hn2]
      rw [hT] at hF2
      rw [hn2] at ht1
      have HSC := Aside0.mk (scan_row_call a t 0 0 n2 hn2 hF1)
      have HSC2 := Aside0.mk (scan_row_call (s ++ ⟨#[10]⟩ ++ a) T 0 0 (nt + n2) hn3 hF2)
      have HT := Aside0.mk hT
      have HT2 := Aside0.mk ht2
      have HN2 := Aside0.mk hn2
      have HN3 := Aside0.mk hn3
      have HNT := Aside0.mk hnt
      clear hF1 hF2 hT ht2 hn2 hn3 hnt hR hR0
      go_enter Tryz.func4, Tryz.ntmps4
      go_upto_region 9 with (first
        | (go_at_call 6; (with_reducible refine HTX.out.mono ?_); rintro e w1 ⟨A1, c1, rfl, hr1, hb1⟩; have HR1 := Aside0.mk hr1; have HB1 := Aside0.mk hb1; clear hr1 hb1)
        | (go_at_call 7; (with_reducible refine (HSC.out _).mono ?_); rintro e w2 ⟨A2, c2, rfl, hr2, hb2⟩; have HR2 := Aside0.mk hr2; have HB2 := Aside0.mk hb2; clear hr2 hb2)
        | (go_at_call 7; (with_reducible refine (HSC2.out _).mono ?_); rintro e w3 ⟨A3, c3, rfl, hr3, hb3⟩; have HR3 := Aside0.mk hr3; have HB3 := Aside0.mk hb3; clear hr3 hb3))
      have HC2 := Aside0.mk (Kd.C_kept_own (S := fun k => k < w1.heap.size) (Kd.R_bound (Kd.R_below HR2.out HB3.out)) (fun k hk hs => by have := hk.2.1; omega))
      have HC3 := Aside0.mk (Kd.C_kept_own (S := fun k => k < w1.heap.size) (Kd.R_bound HR3.out) (fun k hk hs => by have := hk.2.1; have := HB2.out.size; omega))
      have HX0 := Aside0.mk (show JX W w3 w1.heap.size (.slice A1 nt c1) tk w3 from ⟨Kd.R_below (Kd.R_below (Kd.R_mono (Kd.R_bound HR1.out) (fun k hk => Or.inl hk.2.2.1)) HB2.out) HB3.out, HB1.out.trans ((HB2.out.trans (HB3.out.mono HB2.out.size)).mono HB1.out.size), Kept.refl _ _⟩)
      obtain ⟨b1, hb1⟩ : ∃ b, w1.heap.size = b := ⟨_, rfl⟩
      rw [hb1] at HC2 HC3 HX0
      have hc2 : n2 ≤ c2 := (Kd.R_reads' HR2.out).2.1
      have hc3 : nt + n2 ≤ c3 := (Kd.R_reads' HR3.out).2.1
      clear HR1 HR2 HR3 HB1 HB2 HB3 hb1
      go_loopw [6, 62] (fun v6 v62 wr => ∃ k : Nat, k ≤ n2 ∧ v62 = .int .i64 k ∧ Hid (JX W w3 b1 v6 (tk ++ (t.take k).map (Go.Proofs.YtlpoglkddknedaaGreatDoor.P.shT (L + 1))) wr)) (fun _ i _ => n2 - (Go.RowKit.intOf i).toNat)
      case atStart => exact ⟨0, Nat.zero_le _, rfl, Lib.hid (by rw [List.take_zero, List.map_nil, List.append_nil]; exact HX0.out)⟩
      case round =>
        clear HX0
        obtain ⟨k, hk, rfl, HX⟩ := hrel
        by_cases hlt : k < n2
        · have hlt' : k < t.length := by rw [HN2.out]; exact hlt
          obtain ⟨ad, ea, y0, y1, y2⟩ := at_T31 (HC2.out wr HX.out.kp) (k : Int) (by omega) (by omega)
          have hrd : rd_T31 t (k : Int) = t[k] := by unfold rd_T31; simp [hlt']
          rw [hrd] at y0 y1 y2
          have hsn := map_take_snoc hlt' (Go.Proofs.YtlpoglkddknedaaGreatDoor.P.shT (L + 1))
          have hrg := HT2.out t[k] (List.getElem_mem hlt')
          obtain ⟨x, hx⟩ : ∃ x, t[k] = x := ⟨_, rfl⟩
          rw [hx] at y0 y1 y2 hsn hrg
          obtain ⟨hr0, hr1⟩ := hrg
          rw [Int.toNat_natCast] at y0 y1 y2
          subst ea
          obtain ⟨l0, hl0⟩ : ∃ l, tk ++ (t.take k).map (Go.Proofs.YtlpoglkddknedaaGreatDoor.P.shT (L + 1)) = l := ⟨_, rfl⟩
          have hll : l0.length ≤ 600 := by rw [← hl0, List.length_append, List.length_map, List.length_take, HNT.out]; omega
          rw [hl0] at HX
          have HSN := Aside0.mk hsn
          have HL0 := Aside0.mk hl0
          have HXX := Aside0.mk HX.out
          obtain ⟨Av, cv, ev⟩ := Kd.R_slice HX.out.row
          obtain ⟨n6, hn6⟩ : ∃ n, l0.length = n := ⟨_, rfl⟩
          rw [hn6] at ev hll
          subst ev
          have HN6 := Aside0.mk hn6
          have HX0 := Aside0.mk (show (Go.Proofs.YtlpoglkddknedaaGreatDoor.P.shT (L + 1) x) = ⟨x.f0, x.f1, x.f2 + ((L : Int) + 1)⟩ by unfold Go.Proofs.YtlpoglkddknedaaGreatDoor.P.shT; rw [Int.natCast_add]; rfl)
          clear hlt' hrd hsn hx hl0 HX hn6
          go_upto_region 11 with (fail)
          clear y0 y1 y2
          have h8 := blk_new wr (.cells #[.int .i64 x.f0, .string x.f1, .int .i64 x.f2] 31)
          have HB6 := Aside0.mk ((Below.refl wr.heap.size wr).alloc (Nat.le_refl _) (.cells #[.int .i64 x.f0, .string x.f1, .int .i64 x.f2] 31))
          have h8l := Nat.le_refl wr.heap.size
          obtain ⟨w6, hw6⟩ : ∃ w6, wr.alloc (.cells #[.int .i64 x.f0, .string x.f1, .int .i64 x.f2] 31) = w6 := ⟨_, rfl⟩
          obtain ⟨b8, hb8⟩ : ∃ b, wr.heap.size = b := ⟨_, rfl⟩
          rw [hw6] at h8 HB6
          have HB7 := Aside0.mk (HB6.out.setCell (p := ⟨b8, 2, none⟩) (by rw [← hb8]; exact h8l) (.int .i64 (x.f2 + ((L : Int) + 1))))
          rw [hb8] at h8
          rw [hw6, hb8]
          have y2 : w6.cell? ⟨b8, 2, none⟩ = some (.int .i64 x.f2) := (blk_cell h8 2).trans rfl
          have z2 : w6.frozen? ⟨b8, 2, none⟩ = false := blk_frozen h8 2
          have HX7 := Aside0.mk (HXX.out.below HB7.out)
          have h87 := blk_put h8 2 (.int .i64 (x.f2 + ((L : Int) + 1))) rfl
          have r0 : (w6.setCell ⟨b8, 2, none⟩ (.int .i64 (x.f2 + ((L : Int) + 1)))).cell? ⟨b8, 0, none⟩ = some (.int .i64 x.f0) := (blk_cell h87 0).trans rfl
          have r1 : (w6.setCell ⟨b8, 2, none⟩ (.int .i64 (x.f2 + ((L : Int) + 1)))).cell? ⟨b8, 1, none⟩ = some (.string x.f1) := (blk_cell h87 1).trans rfl
          have r2 : (w6.setCell ⟨b8, 2, none⟩ (.int .i64 (x.f2 + ((L : Int) + 1)))).cell? ⟨b8, 2, none⟩ = some (.int .i64 (x.f2 + ((L : Int) + 1))) := (blk_cell h87 2).trans rfl
          clear hw6 hb8 h8 h8l h87
          go_upto_region 12 with (fail)
          clear y2 z2
          obtain ⟨w7, hw7⟩ : ∃ w7, w6.setCell ⟨b8, 2, none⟩ (.int .i64 (x.f2 + ((L : Int) + 1))) = w7 := ⟨_, rfl⟩
          rw [hw7] at HB7 HX7 r0 r1 r2 ⊢
          clear hw7 HB6
          go_upto_region 13 with (first
            | (at_builtin
               refine Kd.R_append k31 (w0 := W) W.heap.size rfl (.tmp 73) (.tmp 75) 23 31 (.agg #[(.int .i64 0), (.string ⟨#[]⟩), (.int .i64 0)]) 32 rfl Tryz.underlying23 txi31 rfl (by decide) (by omega) (.slice Av n6 cv) l0 ⟨x.f0, x.f1, x.f2 + ((L : Int) + 1)⟩ [.int .i64 x.f0, .string x.f1, .int .i64 (x.f2 + ((L : Int) + 1))] (fun k => k < b1 ∨ w3.heap.size ≤ k) (fun _ => False) rfl (by first | (go_simp; done) | (go_simp; rfl)) (k31_mkM _ _ _ ⟨x.f0, x.f1, x.f2 + ((L : Int) + 1)⟩) (fun _ hk => hk.elim) ?aF ?aO ?aB ?aS ?aL ?_
               case aF => exact fun k hk => HX7.out.fresh k hk
               case aO => exact HX7.out.row
               case aB => exact HX7.out.bl
               case aS => exact HX7.out.bl.size
               case aL => rw [HN6.out]; omega
               intro v8 w8 ho hb8 hg8 hat8
               have HX8 := Aside0.mk (HX7.out.app ho hb8 hg8)
               clear ho hb8 hg8 hat8))
          clear r0 r1 r2 HX7 HB7
          go_wp2
          go_roundw
          case rel => exact ⟨k + 1, by omega, by go_num, Lib.hid (by rw [HSN.out, ← List.append_assoc, HL0.out, HX0.out]; exact HX8.out)⟩
          case measure => simp [Go.RowKit.intOf]; omega
        · have hkn : k = n2 := by omega
          subst hkn
          rw [List.take_of_length_le (by rw [HN2.out]; exact Nat.le_refl _), HT.out] at HX
          obtain ⟨A6, c6, e6⟩ := Kd.R_slice HX.out.row
          rw [HN3.out] at e6
          subst e6
          obtain ⟨hz6, hc6, hr6⟩ := Kd.R_reads' HX.out.row
          rw [HN3.out] at hr6
          have HEQ := Aside0.mk (show Calls Tryz.prog 8 #[.slice A3 (nt + k) c3, .slice A6 (nt + k) c6] wr fun e w' => e = .returned (.bool true) ∧ Below wr.heap.size wr w' from eqK_call T (nt + k) HN3.out (by omega) wr A3 A6 c3 c6 (HC3.out wr HX.out.kp) hc3 hr6 hc6)
          have HBW := Aside0.mk HX.out.bl
          clear HX hr6 hk hlt hz6
          go_wp2_with (first
            | (go_at_call 8; (with_reducible refine HEQ.out.mono ?_); rintro e w5 ⟨rfl, hb5⟩; have HB5 := Aside0.mk (HBW.out.trans (hb5.mono HBW.out.size)); clear hb5)
            | (go_at_call 10; (with_reducible refine (works_calls _).mono ?_); rintro e w6 ⟨rfl, hb6⟩; have HB6 := Aside0.mk (HB5.out.trans (hb6.mono HB5.out.size)); clear hb6))
          go_ret
          exact ⟨rfl, HB6.out⟩
end Go.Proofs.YtlpoglkddknedaaGreatDoor.R

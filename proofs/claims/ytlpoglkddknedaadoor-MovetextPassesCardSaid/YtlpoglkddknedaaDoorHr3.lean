/- MovetextPasses walked: it answers true. Conditions: the bytes are bytes, the variables hold what their initialisers lay. -/
import Derived.Test.YtlpoglkddknedaaDoorHc2
import Derived.Test.YtlpoglkddknedaaDoorHz5
namespace Go.Proofs.YtlpoglkddknedaaDoor.Z
open Go.RowKit Go.Proofs.YtlpoglkddknedaaDoor.T Go.Proofs.YtlpoglkddknedaaDoor.H Go.Proofs.YtlpoglkddknedaaDoorW.PrintWords Go.Proofs.YtlpoglkddknedaaDoorW.PrintLast Go.Proofs.YtlpoglkddknedaaDoorW.PrintMore
set_option linter.unusedVariables false
set_option linter.unusedSimpArgs false
def psT28 : Bool × List (List Nat × List Nat) := (true, [([], []), ([], []), ([0, 1], [0, 1]), ([], []), ([], []), ([], []), ([5], [5]), ([6], [6]), ([4, 7], [4, 7]), ([2, 3, 8], [2, 3, 8]), ([9], [9]), ([], []), ([10, 11, 10], [10, 11]), ([12], [12]), ([13], [13]), ([13], [13]), ([13], [13]), ([], []), ([17, 14, 12, 0, 1, 2, 3, 4, 5, 6, 7, 8, 9, 10, 11, 12, 13, 14, 17], [14, 17]), ([15, 18, 0, 1, 2, 3, 4, 5, 6, 7, 8, 9, 10, 11, 12, 13, 14, 15, 17, 18], [15]), ([16, 19, 0, 1, 2, 3, 4, 5, 6, 7, 8, 9, 10, 11, 12, 13, 14, 15, 16, 17, 18, 19], [16])])
def psB28 : List Nat := [0, 0, 3, 0, 0, 0, 32, 96, 240, 511, 1023, 0, 4095, 8191, 16383, 16383, 16383, 0, 163839, 458751, 1048575]
theorem pstab28 : rtab .any (opsOf Tryd.f7 28) = psT28 := by kernel_rfl
theorem psbits28 : waitsOk psT28.2 psB28 = true := by kernel_rfl
theorem pass_start (g B : Nat) (w1 : World) (vn : Value) (n : Nat) (N6 : List (Int × Int)) (ms : List ByteArray) (R : List S46) (hR : rowN itoaS ms N6 = R) (hn : n ≤ 60) (hg : g < B) (hB : w1.heap.size = B) (h6 : w1.heap[g]? = some (.cells #[vn] 65 (0, 0))) :
    PassL B g B (B + 1) vn n N6 ms R w1 0 ((w1.alloc (.cells #[.slice none 0 0] 23)).alloc (.cells #[.int .i64 0] 3)) := by
  refine ⟨0, .slice none 0 0, [], Nat.zero_le _, by simpa using hR, by simp only [List.length_nil]; omega, ?_⟩
  subst hB
  exact { l6 := hg
          l10 := Nat.le_refl _
          l11 := by omega
          ne := by omega
          h6 := blk_alloc (blk_alloc h6 _) _
          h11 := by
            have h := blk_new (w1.alloc (.cells #[.slice none 0 0] 23)) (.cells #[.int .i64 0] 3)
            rw [World.size_alloc] at h
            exact h
          h10 := blk_alloc (blk_new w1 _) _
          bl := ((Below.refl _ _).alloc (Nat.le_refl _) _).alloc (by rw [World.size_alloc]; omega) _
          rt := Kd.R_nil _ _ _ _ _ }
theorem str_at {w : World} {A : Option Addr} {n k : Nat} {xs : List ByteArray} (h : Kd.C Kd.string w A n xs) (hk : k < n) : ∃ ad s, A = some ad ∧ w.cell? (ad.add k) = some (.string s) ∧ xs[k]? = some s := by
  obtain ⟨ad, cc, rfl, hcl, hK, hcell⟩ := Kd.C_get h ⟨#[]⟩ (k : Int) (by omega) (by omega)
  obtain rfl : cc = [.string (xs.getD k ⟨#[]⟩)] := hK
  refine ⟨ad, xs.getD k ⟨#[]⟩, rfl, ?_, ?_⟩
  · have h := hcell 0 _ rfl
    rw [Int.toNat_natCast] at h
    simpa [Kd.string, Kd.scalar] using h
  · have := Kd.C_len h
    rw [List.getD_eq_getElem?_getD, List.getElem?_eq_getElem (by omega)]
    rfl
theorem litP (w : World) (l : List S46) (k : Nat) (hk : l.length = k) (hl : k ≤ 1000000) (cs : Array Value) (hcs : cs = (flatT l).toArray) : Kd.C k46 (w.alloc (.cells cs 46)) (some ⟨w.heap.size, 0, none⟩) k l := by
  subst hk
  exact (Kd.R_reads' (litR w w.heap.size l _ rfl hl (Nat.le_refl _) cs hcs)).2.2
theorem keepC {w w1 : World} {p : Addr} {v : Value} (h : w.cell? p = some v) (hb : Below w.heap.size w w1) : w1.cell? p = some v := (hb.cell (World.block_lt_of_cell? w _ h)).trans h
set_option maxHeartbeats 8000000 in
set_option maxRecDepth 100000 in
theorem passes_any (W : World) (A0 : Option Addr) (c0 : Nat) (l : List Int) (hC0 : Kd.C (Kd.int .u8) W A0 l.length l) (hc0 : l.length ≤ c0) (hl : ∀ x ∈ l, 0 ≤ x ∧ x ≤ 255) (r : Int) (hr0 : 0 ≤ r) (hr1 : r ≤ 255)
    (A : Option Addr) (c : Nat) (N : List (Int × Int)) (hcN : N.length ≤ c) (hN : ∀ (j : Nat) p, N[j]? = some p → ∃ ad, A = some ad ∧ W.cell? (ad.add (j * 2)) = some (.int .u8 p.1) ∧ W.cell? (ad.add (j * 2 + 1)) = some (.int .u8 p.2)) (hNr : ∀ p ∈ N, (0 ≤ p.1 ∧ p.1 ≤ 255) ∧ 0 ≤ p.2 ∧ p.2 ≤ 255)
    (Am : Option Addr) (cm : Nat) (more : List S46) (hCm : Kd.C k46 W Am more.length more) (hcm : more.length ≤ cm) (hms : ∀ t ∈ more, t.f1.size ≤ 9223372036854775807) (hg : Laid W) (x : Int) (hx : r % 4 = x) (t : S46)
    (ht : (x = 0 ∧ t = ⟨4, ⟨#[42]⟩, 0⟩) ∨ (x ≠ 0 ∧ t = ⟨2, wordOf x, 0⟩)) :
    Calls Tryd.prog 7 #[.slice A0 l.length c0, .int .u8 r, .slice A N.length c, .slice Am more.length cm] W fun e w' => e = .returned (.bool true) ∧ Below W.heap.size W w' := by
  -- letters
  obtain ⟨nl, hnl⟩ : ∃ nl, l.length = nl := ⟨_, rfl⟩
  obtain ⟨ms, hms0⟩ : ∃ ms, (l.take 40).map mvOf = ms := ⟨_, rfl⟩
  obtain ⟨mm, hmm⟩ : ∃ mm, ms.length = mm := ⟨_, rfl⟩
  have hmm40 : mm ≤ 40 := by rw [← hmm, ← hms0, List.length_map, List.length_take]; omega
  have hmg : ∀ m ∈ ms, numF m = false ∧ resF m < 1 ∧ m.size ≤ 100 := by
    intro m hm
    rw [← hms0] at hm
    obtain ⟨y, hy, rfl⟩ := List.mem_map.1 hm
    exact mv_good y (hl y (List.mem_of_mem_take hy)).1
  obtain ⟨N6, hN6⟩ : ∃ N6, N.take 60 = N6 := ⟨_, rfl⟩
  obtain ⟨n, hn⟩ : ∃ n, N6.length = n := ⟨_, rfl⟩
  have hn60 : n ≤ 60 := by rw [← hn, ← hN6, List.length_take]; omega
  have hNr6 : ∀ p ∈ N6, (0 ≤ p.1 ∧ p.1 ≤ 255) ∧ 0 ≤ p.2 ∧ p.2 ≤ 255 := fun p hp => hNr p (List.mem_of_mem_take (hN6 ▸ hp))
  have hNg : ∀ p ∈ N6, 0 ≤ p.2 ∧ numF (itoaS p.2) = true := by
    intro p hp
    obtain ⟨_, h1, h2⟩ := hNr6 p hp
    refine ⟨h1, ?_⟩
    have h := numF_itoa ⟨p.2.toNat, by omega⟩
    rw [show (((⟨p.2.toNat, by omega⟩ : Fin 256).val : Nat) : Int) = p.2 by show ((p.2.toNat : Nat) : Int) = p.2; omega] at h
    exact h
  have hNs : ∀ p ∈ N6, (itoaS p.2).size ≤ 100 := by
    intro p hp
    obtain ⟨_, h1, h2⟩ := hNr6 p hp
    have h : (itoaS p.2).size ≤ 21 := Lib.itoa_length_le p.2 (by omega) (by omega)
    omega
  obtain ⟨R, hR⟩ : ∃ R, rowN itoaS ms N6 = R := ⟨_, rfl⟩
  obtain ⟨nr, hnr⟩ : ∃ nr, R.length = nr := ⟨_, rfl⟩
  have hnr2 : nr ≤ 1840 := by
    have h := row_len itoaS ms N6 (fun p hp => (hNr6 p hp).2.1)
    rw [hR, hnr, hn, hmm] at h
    omega
  have hRs : ∀ t ∈ R, t.f1.size ≤ 100 := fun t ht => row_size itoaS ms N6 (fun m hm => (hmg m hm).2.2) hNs t (by rw [hR]; exact ht)
  obtain ⟨mN, hmN⟩ : ∃ mN, N.length = mN := ⟨_, rfl⟩
  obtain ⟨mo, hmo⟩ : ∃ mo, more.length = mo := ⟨_, rfl⟩
  obtain ⟨M5, hM5⟩ : ∃ M5, more.take 50 = M5 := ⟨_, rfl⟩
  obtain ⟨q, hq⟩ : ∃ q, M5.length = q := ⟨_, rfl⟩
  have hq50 : q ≤ 50 := by rw [← hq, ← hM5, List.length_take]; omega
  have hqm : min (mo : Int) 50 = (q : Int) := by rw [← hq, ← hM5, List.length_take]; omega
  have hqm2 : q ≤ mo := by rw [← hq, ← hM5, List.length_take]; omega
  have hx03 : 0 ≤ x ∧ x < 4 := by omega
  -- calls
  have HG := Aside0.mk hg
  have HMV := Aside0.mk (show ∀ w, Below W.heap.size W w → Calls Tryd.prog 28 #[.slice A0 nl c0] w fun e w' => ∃ v, e = .returned v ∧ Kd.R Kd.string 9 w' w.heap.size (fun _ => True) v ms ∧ Below w.heap.size w w' from fun w hb => by
    subst hnl hms0; exact moves_call w A0 c0 l (Kd.C_below hC0 hb) hc0 hl)
  have HP0 := Aside0.mk (show ∀ w, Below W.heap.size W w → ∀ A c, Kd.C k46 w A nr R → nr ≤ c → Calls Tryd.prog 10 #[.slice A nr c, .int .i64 0] w fun e w' => ∃ (A8 : Option Addr) (c8 : Nat), e = .returned (.tuple #[.agg #[.slice A8 0 c8, .int .i64 0], .int .i64 0, .int .i64 16]) ∧ Below w.heap.size w w' from
    fun w hb A c hC hc => parse0_call ms N6 R hR nr hnr (fun m hm => ⟨(hmg m hm).1, (hmg m hm).2.1⟩) hNg (by omega) (by omega) hRs w A c hC hc (hg.below hb))
  have HWD := Aside0.mk (show ∀ w, Below W.heap.size W w → Calls Tryd.prog 31 #[.int .i64 x] w fun e w' => e = .returned (.tuple #[.string (wordOf x), .int .i64 0]) ∧ Below w.heap.size w w' from fun w hb => word_call x hx03 w (hg.below hb))
  obtain ⟨n1, hn1⟩ : ∃ n1, nr + 1 = n1 := ⟨_, rfl⟩
  have hn12 : n1 ≤ 1841 := by omega
  have hn13 : 0 < n1 := by omega
  obtain ⟨R1, hR1⟩ : ∃ R1, R ++ [t] = R1 := ⟨_, rfl⟩
  have hnr1 : R1.length = n1 := by rw [← hR1, List.length_append, hnr, ← hn1]; rfl
  have htg : ((t.f0 = 4 ∧ x = 0) ∨ (t.f0 = 2 ∧ numF t.f1 = false ∧ resF t.f1 = x ∧ 1 ≤ x)) ∧ t.f1.size ≤ 100 := by
    rcases ht with ⟨h0, rfl⟩ | ⟨h0, rfl⟩
    · exact ⟨.inl ⟨rfl, h0⟩, by decide⟩
    · rcases end_good x hx03 with h | h
      · exact absurd h.1 h0
      · exact ⟨.inr ⟨rfl, h.2.1, h.2.2.1, h.2.2.2.1⟩, h.2.2.2.2⟩
  have HPE := Aside0.mk (show ∀ w, Below W.heap.size W w → ∀ (k : Nat), k ≤ 2 → ∀ L nL, front2.take k ++ (R1 ++ M5) = L → L.length = nL → ∀ A c, Kd.C k46 w A nL L → nL ≤ c → Calls Tryd.prog 10 #[.slice A nL c, .int .i64 (k : Int)] w fun e w' => ∃ (A8 : Option Addr) (c8 : Nat), e = .returned (.tuple #[.agg #[.slice A8 mm c8, .int .i64 x], .int .i64 ((n1 : Int) + k), .int .i64 0]) ∧ Kd.R Kd.string 9 w' w.heap.size (fun _ => True) (.slice A8 mm c8) ms ∧ Below w.heap.size w w' from
    fun w hb k hk L nL hL hnL A c hC hc => parseE_call ms mm hmm N6 R hR t R1 hR1 n1 hnr1 x htg.1 htg.2 (fun m hm => ⟨(hmg m hm).1, (hmg m hm).2.1⟩) hNg (by omega) (by omega) hRs M5 (by omega) (fun u hu => hms u (List.mem_of_mem_take (hM5 ▸ hu))) k hk L hL nL hnL w A c hC hc (hg.below hb))
  have HPS := Aside0.mk (show ∀ (B g b10 b11 : Nat) (w1 : World), W.heap.size ≤ B → Below W.heap.size W w1 → ∀ k w, k ≤ 40 → PassL B g b10 b11 (.slice A mN c) n N6 ms R w1 k w → w1.heap.size = B → Calls Tryd.prog 29 #[.pointer (some ⟨b11, 0, none⟩), .pointer (some ⟨g, 0, none⟩), .pointer (some ⟨b10, 0, none⟩)] w fun e w' => e = .returned (.tuple #[]) ∧ PassM B g b10 b11 (.slice A mN c) n N6 ms R w1 k w' from
    fun B g b10 b11 w1 hB hb1 k w hk h hB1 => pass_l w1 w B g b10 b11 A c N n N6 hN6 hn mN hmN ms R k hk (fun w2 hb2 j p hp => by
      obtain ⟨ad, e, h1, h2⟩ := hN j p hp
      have hb := hb1.trans (hb2.mono hB)
      exact ⟨ad, e, keepC h1 hb, keepC h2 hb⟩) hNr (fun w2 hb2 => hg.below (hb1.trans (hb2.mono hB))) h)
  have HMO := Aside0.mk (show ∀ w, Below W.heap.size W w → Kd.C k46 w Am q M5 ∧ q ≤ cm from fun w hb => by
    have h := Kd.C_take (m := q) (Kd.C_below hCm hb) (by omega)
    have e : more.take q = M5 := by
      rw [← hM5, List.take_eq_take_iff, ← hq, ← hM5, List.length_take]; omega
    rw [e, hq] at h
    exact ⟨h, by omega⟩)
  have HRN := Aside0.mk (And.intro hR hnr)
  have HT := Aside0.mk ht
  have HR1 := Aside0.mk (And.intro hR1 hnr1)
  have HMM := Aside0.mk hmm
  have HN1 := Aside0.mk hn1
  have HQ := Aside0.mk hq
  have hcm2 : q ≤ cm := by omega
  have hmcm : mo ≤ cm := by omega
  rw [hnl, hmN, hmo]
  have hmNc : mN ≤ c := by omega
  clear hC0 hc0 hl hnl hms0 hmm hmg hN6 hn hNr6 hNg hNs hR hnr hRs hmN hmo hM5 hq hN hNr hcN hCm hcm hms hg ht hR1 hnr1 htg hx03 hn1
  go_enter Tryd.func7, Tryd.ntmps7
  go_upto_region 2 with (first
    | (go_at_call 28; (with_reducible refine (HMV.out _ (show Below W.heap.size W (W.alloc (.cells #[.slice A mN c] 65)) from (Below.refl _ _).alloc (Nat.le_refl _) _)).mono ?_); rintro e w1 ⟨v1, rfl, hr1_, hb1⟩; have HR_ := Aside0.mk hr1_; have HB1_ := Aside0.mk hb1; clear hr1_ hb1))
  obtain ⟨Ams, cms, e1⟩ := Kd.R_slice HR_.out
  rw [HMM.out] at e1
  subst e1
  obtain ⟨g, hgg⟩ : ∃ g, W.heap.size = g := ⟨_, rfl⟩
  obtain ⟨B, hB⟩ : ∃ B, w1.heap.size = B := ⟨_, rfl⟩
  have HB1 := Aside0.mk (show Below W.heap.size W w1 from ((Below.refl _ _).alloc (Nat.le_refl _) _).trans (HB1_.out.mono (by rw [World.size_alloc]; omega)))
  have HBS := Aside0.mk hB
  have hgB : g < B := by have := HB1_.out.size; rw [World.size_alloc] at this; omega
  have HGB := Aside0.mk (And.intro hgg hgB)
  have h6 : w1.heap[g]? = some (.cells #[.slice A mN c] 65 (0, 0)) := by rw [← hgg]; exact blk_below (blk_new W _) HB1_.out
  have HMS := Aside0.mk (show Kd.C Kd.string w1 Ams mm ms ∧ mm ≤ cms from by
    have h := Kd.R_reads' HR_.out
    rw [HMM.out] at h
    exact ⟨h.2.2, h.2.1⟩)
  have HS := Aside0.mk (pass_start g B w1 (.slice A mN c) n N6 ms R HRN.out.1 hn60 hgB hB h6)
  rw [hgg]
  clear HR_ HB1_ h6 hgB hB hgg HMV
  go_upto_region 6 with (fail)
  obtain ⟨w2, hw2⟩ : ∃ w2, (w1.alloc (.cells #[.slice none 0 0] 23)).alloc (.cells #[.int .i64 0] 3) = w2 := ⟨_, rfl⟩
  rw [hw2] at HS ⊢
  rw [HBS.out]
  clear hw2
  go_loopw [34] (fun i wr => ∃ k : Nat, k ≤ mm ∧ i = .int .i64 k ∧ Hid (PassL B g B (B + 1) (.slice A mN c) n N6 ms R w1 k wr)) (fun i _ => mm - (Go.RowKit.intOf i).toNat)
  case atStart => exact ⟨0, Nat.zero_le _, rfl, Lib.hid HS.out⟩
  case round =>
    clear HS
    obtain ⟨k, hk, rfl, HP⟩ := hrel
    have HWB := Aside0.mk (show W.heap.size ≤ B from HBS.out ▸ HB1.out.size)
    have HPL := Aside0.mk (HPS.out B g B (B + 1) w1 HWB.out HB1.out k wr (by omega) HP.out HBS.out)
    by_cases hlt : k < mm
    · obtain ⟨p0, vt0, tk0, _, _, _, hv0⟩ := HP.out
      have hbl := hv0.bl
      rw [← HBS.out] at hbl
      obtain ⟨ad, s, rfl, hcs, hss⟩ := str_at (Kd.C_below HMS.out.1 hbl) hlt
      have HSS := Aside0.mk hss
      clear hv0 hbl hss HP
      go_upto_region 9 with (first
        | (go_at_call 29; (with_reducible refine HPL.out.mono ?_); rintro e w3 ⟨rfl, hm⟩; have HM3 := Aside0.mk hm; clear hm))
      clear HPL hcs
      obtain ⟨p, vt, tk, hp, hstep, _, hlen, hv⟩ := HM3.out
      have HST := Aside0.mk (hstep s HSS.out)
      have HV := Aside0.mk hv
      have HPP := Aside0.mk (And.intro hp hlen)
      obtain ⟨_, _, c10, _, f10⟩ := hv.cells
      have hlen2 : tk.length ≤ 2440 := by omega
      clear hstep hlen hv HM3 HSS hp
      go_upto_region 10 with (first
        | (at_builtin
           refine Kd.R_append k46 (w0 := w1) B rfl (.tmp 40) (.tmp 43) 23 46 (.agg #[(.int .i64 0), (.string ⟨#[]⟩), (.int .i64 0)]) 32 rfl Tryd.underlying23 zi46 rfl (by decide) (by omega) vt tk ⟨2, s, 0⟩ [.int .i64 2, .string s, .int .i64 0] (fun k_ => k_ ≠ B ∧ k_ ≠ B + 1) (fun _ => False) rfl (by first | (go_simp; done) | (go_simp; rfl)) (k46_mkM _ _ _ ⟨2, s, 0⟩) (fun _ hk => hk.elim) ?aF ?aO ?aB ?aS ?aL ?_
           case aF => exact fun k_ hk_ => HV.out.fresh k_ hk_
           case aO => exact HV.out.rt
           case aB => exact HV.out.bl
           case aS => exact HV.out.size
           case aL => omega
           intro v4 w4 ho hb4 hg4 hat4
           obtain ⟨A4, c4, e4⟩ := Kd.R_slice ho
           generalize (tk ++ [(⟨2, s, 0⟩ : S46)]).length = n4 at e4
           subst e4
           have HV4 := Aside0.mk (HV.out.app ho hb4 hg4)
           have d7 : w4.cell? ⟨B, 0, none⟩ = some vt := (blk_cell (blk_grown HV.out.h10 hg4 HV.out.n10) 0).trans rfl
           have g7 : w4.frozen? ⟨B, 0, none⟩ = false := blk_frozen (blk_grown HV.out.h10 hg4 HV.out.n10) 0
           clear ho hb4 hg4 hat4 c10 f10))
      clear d7 g7 hlen2
      go_wp2
      go_roundw
      case rel => exact ⟨k + 1, by omega, by go_num, Lib.hid ⟨p, _, _, HPP.out.1, HST.out, by have := HPP.out.2; simp only [List.length_append, List.length_cons, List.length_nil]; omega, HV4.out⟩⟩
      case measure => simp [Go.RowKit.intOf]; omega
    · have hkm : mm = k := by omega
      subst hkm
      clear HP
      go_upto_region 12 with (first
        | (go_at_call 29; (with_reducible refine HPL.out.mono ?_); rintro e w3 ⟨rfl, hm⟩; have HM3 := Aside0.mk hm; clear hm))
      clear HPL
      obtain ⟨p, vt, tk, hp, _, hend, hlen, hv⟩ := HM3.out
      obtain rfl := hend (by rw [HMM.out]; exact Nat.le_refl _)
      obtain ⟨Ar, cr, e3⟩ := Kd.R_slice hv.rt
      rw [HRN.out.2] at e3
      subst e3
      have HV := Aside0.mk hv
      have HB3 := Aside0.mk (HB1.out.trans (hv.bl.mono HWB.out))
      have HC3 := Aside0.mk (show Kd.C k46 w3 Ar nr tk ∧ nr ≤ cr from by
        have h := Kd.R_reads' hv.rt
        rw [HRN.out.2] at h
        exact ⟨h.2.2, h.2.1⟩)
      obtain ⟨_, _, c10, _, _⟩ := hv.cells
      clear hend hlen hv HM3 hp hlt hk hn60
      go_upto_region 13 with (first
        | (go_at_call 10; (with_reducible refine (HP0.out w3 HB3.out Ar cr HC3.out.1 HC3.out.2).mono ?_); rintro e w4 ⟨A8, c8, rfl, hb4⟩; have HB4 := Aside0.mk hb4; clear hb4))
      clear c10 HP0 HPS HC3
      have HB5 := Aside0.mk (show Below w3.heap.size w3 (w4.alloc (.cells #[.slice A8 0 c8, .int .i64 0] 27)) from HB4.out.alloc HB4.out.size _)
      have HW5 := Aside0.mk (HWD.out _ (HB3.out.trans (HB5.out.mono HB3.out.size)))
      clear HB4
      go_upto_region 20 with (first
        | (go_at_call 31; (with_reducible refine HW5.out.mono ?_); rintro e w6 ⟨rfl, hb6⟩; have HB6 := Aside0.mk hb6; clear hb6))
      rename_i K hK K2 hK2
      obtain ⟨b6, hb6⟩ : ∃ b, w6.heap.size = b := ⟨_, rfl⟩
      have HB36 := Aside0.mk (HB5.out.trans (HB6.out.mono HB5.out.size))
      have HB6S := Aside0.mk (And.intro hb6 (show w3.heap.size ≤ b6 from hb6 ▸ HB36.out.size))
      rw [hb6]
      clear HW5 HWD hb6
      have HJ : ∀ (y83 y84 y85 y29 y30 y31 y32 y33 y34 y35 y36 y37 y38 y39 y40 y41 y42 y43 y44 y45 y46 y47 y48 y49 y50 y51 y52 y53 y54 y55 y56 y57 y58 y59 y60 y61 y62 y63 y64 y65 y66 y67 y68 y69 y70 y71 y72 y73 y74 y75 y76 y77 y78 y79 y80 y81 y82 : Value) (w8 : World), Hid (Below w3.heap.size w3 w8 ∧ w8.heap[b6]? = some (.cells #[.int .i64 t.f0, .string t.f1, .int .i64 t.f2] 46 (0, 0))) →
          K { tmps := #[.slice A0 nl c0, .int .u8 r, .slice A mN c, .slice Am mo cm, undef, undef, .pointer (some { block := g, off := 0 }), undef, .bool false, .slice Ams mm cms, .pointer (some { block := B, off := 0 }), .pointer (some { block := B + 1, off := 0 }), .func (.func 29) #[] #[.pointer (some { block := B + 1, off := 0 }), .pointer (some { block := g, off := 0 }), .pointer (some { block := B, off := 0 })], undef, u14, .pointer (some { block := w4.heap.size, off := 0 }), .int .i64 0, .int .i64 16, .int .i64 x, .string (wordOf x), .int .i64 0, .pointer (some { block := b6, off := 0 }), undef, undef, undef, undef, undef, undef, undef, y29, y30, y31, y32, y33, y34, y35, y36, y37, y38, y39, y40, y41, y42, y43, y44, y45, y46, y47, y48, y49, y50, y51, y52, y53, y54, y55, y56, y57, y58, y59, y60, y61, y62, y63, y64, y65, y66, y67, y68, y69, y70, y71, y72, y73, y74, y75, y76, y77, y78, y79, y80, y81, y82, y83, y84, y85, undef, undef, undef, undef, undef, undef, undef, undef, undef, undef, undef, undef, undef, undef, undef, undef, undef, undef, undef, undef, undef, undef, undef, undef, undef, undef, undef, undef, undef, undef, undef, undef, undef, undef, undef, undef, undef, undef, undef, undef, undef, undef, undef, undef, undef, undef, undef, undef, undef, undef, undef, undef, undef, undef, undef, undef], defers := [] } w8 := by
        intro y83 y84 y85 y29 y30 y31 y32 y33 y34 y35 y36 y37 y38 y39 y40 y41 y42 y43 y44 y45 y46 y47 y48 y49 y50 y51 y52 y53 y54 y55 y56 y57 y58 y59 y60 y61 y62 y63 y64 y65 y66 y67 y68 y69 y70 y71 y72 y73 y74 y75 y76 y77 y78 y79 y80 y81 y82 w8 HX8
        apply hK
        clear hK K2 hK2
        have HV8 := Aside0.mk (HV.out.below HX8.out.1)
        have HB8 := Aside0.mk (HB3.out.trans (HX8.out.1.mono HB3.out.size))
        obtain ⟨_, _, c10, _, f10⟩ := HV8.out.cells
        have x0 : w8.cell? ⟨b6, 0, none⟩ = some (.int .i64 t.f0) := (blk_cell HX8.out.2 0).trans rfl
        have x1 : w8.cell? ⟨b6, 1, none⟩ = some (.string t.f1) := (blk_cell HX8.out.2 1).trans rfl
        have x2 : w8.cell? ⟨b6, 2, none⟩ = some (.int .i64 t.f2) := (blk_cell HX8.out.2 2).trans rfl
        have htl : tk.length ≤ 1840 := by rw [HRN.out.2]; omega
        clear HV HX8 HB36 HB6S HB5 HB6 HT
        go_upto_region 23 with (first
          | (at_builtin
             refine Kd.R_append k46 (w0 := w1) B rfl (.tmp 86) (.tmp 88) 23 46 (.agg #[(.int .i64 0), (.string ⟨#[]⟩), (.int .i64 0)]) 32 rfl Tryd.underlying23 zi46 rfl (by decide) (by omega) (.slice Ar nr cr) tk t [.int .i64 t.f0, .string t.f1, .int .i64 t.f2] (fun k_ => k_ ≠ B ∧ k_ ≠ B + 1) (fun _ => False) rfl (by first | (go_simp; done) | (go_simp; rfl)) (k46_mkM _ _ _ t) (fun _ hk => hk.elim) ?aF ?aO ?aB ?aS ?aL ?_
             case aF => exact fun k_ hk_ => HV8.out.fresh k_ hk_
             case aO => exact HV8.out.rt
             case aB => exact HV8.out.bl
             case aS => exact HV8.out.size
             case aL => omega
             intro v9 w9 ho hb9 hg9 hat9
             obtain ⟨A9, c9, e9⟩ := Kd.R_slice ho
             rw [HR1.out.1, HR1.out.2] at e9
             subst e9
             have HV9 := Aside0.mk (HV8.out.app ho hb9 hg9)
             have d7 : w9.cell? ⟨B, 0, none⟩ = some (.slice Ar nr cr) := (blk_cell (blk_grown HV8.out.h10 hg9 HV8.out.n10) 0).trans rfl
             have g7 : w9.frozen? ⟨B, 0, none⟩ = false := blk_frozen (blk_grown HV8.out.h10 hg9 HV8.out.n10) 0
             clear ho hb9 hg9 hat9 c10 f10 x0 x1 x2))
        obtain ⟨wa, hwa⟩ : ∃ wa, w9.setCell ⟨B, 0, none⟩ (.slice A9 n1 c9) = wa := ⟨_, rfl⟩
        rw [hwa] at HV9 ⊢
        rw [HR1.out.1] at HV9
        have ca : wa.cell? ⟨B, 0, none⟩ = some (.slice A9 n1 c9) := HV9.out.cells.2.2.1
        have HBA := Aside0.mk (HB1.out.trans (HV9.out.bl.mono HWB.out))
        have HCA := Aside0.mk (show Kd.C k46 wa A9 n1 R1 ∧ n1 ≤ c9 from by
          have h := Kd.R_reads' HV9.out.rt
          rw [HR1.out.2] at h
          exact ⟨h.2.2, h.2.1⟩)
        have HMA := Aside0.mk (show Kd.C Kd.string wa Ams mm ms ∧ mm ≤ cms from ⟨Kd.C_below HMS.out.1 (by rw [HBS.out]; exact HV9.out.bl), HMS.out.2⟩)
        have HFA := Aside0.mk (litP wa front2 2 rfl (by decide) #[.int .i64 6, .string (⟨#[93]⟩ : ByteArray), .int .i64 0, .int .i64 99, .string (⟨#[]⟩ : ByteArray), .int .i64 0] rfl)
        clear hwa d7 g7 HV8 HB8 htl
        go_upto_region 26 with (fail)
        obtain ⟨bf, hbf⟩ : ∃ b, wa.heap.size = b := ⟨_, rfl⟩
        obtain ⟨wL, hwL⟩ : ∃ w, (wa.alloc (.cells #[.int .i64 6, .string (⟨#[93]⟩ : ByteArray), .int .i64 0, .int .i64 99, .string (⟨#[]⟩ : ByteArray), .int .i64 0] 46)).alloc (.cells #[.int .i64 0, .int .i64 2] 3) = w := ⟨_, rfl⟩
        have hLf : Below wa.heap.size wa wL := hwL ▸ ((Below.refl _ _).alloc (Nat.le_refl _) _).alloc (by rw [World.size_alloc]; omega) _
        have HFL := Aside0.mk (show Kd.C k46 wL (some ⟨bf, 0, none⟩) 2 front2 from by
          rw [← hwL, ← hbf]
          exact Kd.C_below HFA.out ((Below.refl _ _).alloc (Nat.le_refl _) _))
        have HIL := Aside0.mk (show wL.heap[bf + 1]? = some (.cells #[.int .i64 0, .int .i64 2] 3 (0, 0)) from by
          rw [← hwL, ← hbf]
          have h := blk_new (wa.alloc (.cells #[.int .i64 6, .string (⟨#[93]⟩ : ByteArray), .int .i64 0, .int .i64 99, .string (⟨#[]⟩ : ByteArray), .int .i64 0] 46)) (.cells #[.int .i64 0, .int .i64 2] 3)
          rw [World.size_alloc] at h
          exact h)
        have HBL := Aside0.mk (HBA.out.trans (hLf.mono HBA.out.size))
        have HCL := Aside0.mk (And.intro (Kd.C_below HCA.out.1 hLf) HCA.out.2)
        have HML := Aside0.mk (And.intro (Kd.C_below HMA.out.1 hLf) HMA.out.2)
        have HRL := Aside0.mk (blk_below HV9.out.h10 hLf)
        rw [hwL, hbf]
        clear hwL hbf hLf ca HV9 HBA HCA HMA HFA HMS HB1 HBS HWB HGB HB3
        go_loopw [97] (fun i wr => ∃ j : Nat, j ≤ 2 ∧ i = .int .i64 j ∧ Hid (Below wL.heap.size wL wr)) (fun i _ => 2 - (Go.RowKit.intOf i).toNat)
        case atStart => exact ⟨0, Nat.zero_le _, rfl, Lib.hid (Below.refl _ _)⟩
        case round =>
          obtain ⟨j, hj, rfl, HP⟩ := hrel
          by_cases hlt : j < 2
          · obtain ⟨kx, hkx, hcx⟩ : ∃ kx : Nat, kx ≤ 2 ∧ wr.cell? ⟨bf + 1, j, none⟩ = some (.int .i64 (kx : Int)) := by
              have hb := blk_below HIL.out HP.out
              rcases (show j = 0 ∨ j = 1 by omega) with rfl | rfl
              · exact ⟨0, by omega, (blk_cell hb 0).trans rfl⟩
              · exact ⟨2, by omega, (blk_cell hb 1).trans rfl⟩
            go_upto_region 28 with (fail)
            have HLD := Aside0.mk (below_drew1 HP.out)
            have HBD := Aside0.mk (HBL.out.trans (HLD.out.mono HBL.out.size))
            have G10 := Aside0.mk (show wr.drew.cell? ⟨B, 0, none⟩ = some (.slice A9 n1 c9) from (blk_cell (blk_below HRL.out HLD.out) 0).trans rfl)
            have GC := Aside0.mk (show Kd.C k46 wr.drew A9 n1 R1 ∧ n1 ≤ c9 from ⟨Kd.C_below HCL.out.1 HLD.out, HCL.out.2⟩)
            have GF := Aside0.mk (show Kd.C k46 wr.drew (some ⟨bf, 0, none⟩) kx (front2.take kx) ∧ kx ≤ 2 from ⟨by
              have h := Kd.C_take (m := kx) (show Kd.C k46 wr.drew (some ⟨bf, 0, none⟩) front2.length front2 from Kd.C_below HFL.out HLD.out) hkx
              have e : (front2.take kx).length = kx := by rw [List.length_take]; show min kx 2 = kx; omega
              rw [e] at h
              exact h, hkx⟩)
            have GM := Aside0.mk (HMO.out _ HBD.out)
            obtain ⟨L, hL⟩ : ∃ L, front2.take kx ++ (R1 ++ M5) = L := ⟨_, rfl⟩
            obtain ⟨nL, hnL⟩ : ∃ nL, L.length = nL := ⟨_, rfl⟩
            have HNL := Aside0.mk (show 0 < nL ∧ nL ≤ 1000000 from by
              rw [← hnL, ← hL, List.length_append, List.length_append, List.length_take, HR1.out.2, HQ.out]; omega)
            have HLL := Aside0.mk (And.intro hL hnL)
            have HPP := Aside0.mk (show ∀ w, Below wr.drew.heap.size wr.drew w → ∀ A c, Kd.C k46 w A nL L → nL ≤ c → Calls Tryd.prog 10 #[.slice A nL c, .int .i64 (kx : Int)] w fun e w' => ∃ (A8 : Option Addr) (c8 : Nat), e = .returned (.tuple #[.agg #[.slice A8 mm c8, .int .i64 x], .int .i64 ((n1 : Int) + kx), .int .i64 0]) ∧ Kd.R Kd.string 9 w' w.heap.size (fun _ => True) (.slice A8 mm c8) ms ∧ Below w.heap.size w w' from
              fun w hb A c hC hc => HPE.out w (HBD.out.trans (hb.mono HBD.out.size)) kx hkx L nL HLL.out.1 HLL.out.2 A c hC hc)
            clear hcx HP hL hnL
            have pk : ((kx : Int) ≤ 2) = True := eq_true (by omega)
            have pq : ((q : Int) ≤ (cm : Int)) = True := eq_true (by omega)
            refine start_ (n := 21) (S := fun w' => True) (ds := []) #[false, false, false, false, false, false, false, false, false, false, false, false, false, false, false, false, false, false, false, false, false] (by kernel_rfl) rfl rfl trivial (fun hHeld => ?_); refine with_tabW pstab28 psbits28 (fun HT_ HW_ => ?_)
            generalize wr.drew = wd at HBD HLD G10 GC GF GM HPP hHeld ⊢
            refine pure_ (i := 0) (N := some 102) (v := ?_) (a' := ?_) #[true, false, false, false, false, false, false, false, false, false, false, false, false, false, false, false, false, false, false, false, false] rfl rfl (any_of HT_.out (by kernel_rfl)) (fun _ _ _ h => h) (Or.inl ⟨by rfl, ?_⟩) ?_ ?_
            rotate_left
            · intro w'
              go_simp
              with_reducible rfl
            rotate_left
            · simp only [Act.put, List.setIfInBounds_toArray, List.set_cons_zero, List.set_cons_succ, i64_w, i32_w]
              rfl
            refine pure_ (i := 1) (N := some 103) (v := ?_) (a' := ?_) #[true, true, false, false, false, false, false, false, false, false, false, false, false, false, false, false, false, false, false, false, false] rfl rfl (any_of HT_.out (by kernel_rfl)) (fun _ _ _ h => h) (Or.inl ⟨by rfl, ?_⟩) ?_ ?_
            rotate_left
            · intro w'
              go_simp
              with_reducible rfl
            rotate_left
            · simp only [Act.put, List.setIfInBounds_toArray, List.set_cons_zero, List.set_cons_succ, i64_w, i32_w]
              rfl
            refine pure_ (i := 2) (N := some 104) (v := ?_) (a' := ?_) #[true, true, true, false, false, false, false, false, false, false, false, false, false, false, false, false, false, false, false, false, false] rfl rfl (any_of HT_.out (by kernel_rfl)) (fun _ _ _ h => h) (Or.inl ⟨by rfl, ?_⟩) ?_ ?_
            rotate_left
            · intro w'
              go_simp
              with_reducible rfl
            rotate_left
            · simp only [Act.put, List.setIfInBounds_toArray, List.set_cons_zero, List.set_cons_succ, i64_w, i32_w]
              rfl
            refine pure_ (i := 4) (N := some 106) (v := ?_) (a' := ?_) #[true, true, true, false, true, false, false, false, false, false, false, false, false, false, false, false, false, false, false, false, false] rfl rfl (any_of HT_.out (by kernel_rfl)) (fun _ _ _ h => h) (Or.inl ⟨by rfl, ?_⟩) ?_ ?_
            rotate_left
            · intro w'
              go_simp
              with_reducible rfl
            rotate_left
            · simp only [Act.put, List.setIfInBounds_toArray, List.set_cons_zero, List.set_cons_succ, i64_w, i32_w]
              rfl
            refine pure_ (i := 5) (N := some 107) (v := ?_) (a' := ?_) #[true, true, true, false, true, true, false, false, false, false, false, false, false, false, false, false, false, false, false, false, false] rfl rfl (any_of HT_.out (by kernel_rfl)) (fun _ _ _ h => h) (Or.inl ⟨by rfl, ?_⟩) ?_ ?_
            rotate_left
            · intro w'
              go_simp
              with_reducible rfl
            rotate_left
            · simp only [Act.put, List.setIfInBounds_toArray, List.set_cons_zero, List.set_cons_succ, i64_w, i32_w]
              rfl
            refine pure_ (i := 6) (N := some 108) (v := ?_) (a' := ?_) #[true, true, true, false, true, true, true, false, false, false, false, false, false, false, false, false, false, false, false, false, false] rfl rfl (any_of HT_.out (by kernel_rfl)) (fun _ _ _ h => h) (Or.inl ⟨by rfl, ?_⟩) ?_ ?_
            rotate_left
            · intro w'
              go_simp
              with_reducible rfl
            rotate_left
            · simp only [Act.put, List.setIfInBounds_toArray, List.set_cons_zero, List.set_cons_succ, i64_w, i32_w]
              rfl
            refine pure_ (i := 7) (N := some 109) (v := ?_) (a' := ?_) #[true, true, true, false, true, true, true, true, false, false, false, false, false, false, false, false, false, false, false, false, false] rfl rfl (any_of HT_.out (by kernel_rfl)) (fun _ _ _ h => h) (Or.inl ⟨by rfl, ?_⟩) ?_ ?_
            rotate_left
            · intro w'
              go_simp
              with_reducible rfl
            rotate_left
            · simp only [Act.put, List.setIfInBounds_toArray, List.set_cons_zero, List.set_cons_succ, i64_w, i32_w]
              rfl
            refine pure_ (i := 8) (N := some 110) (v := ?_) (a' := ?_) #[true, true, true, false, true, true, true, true, true, false, false, false, false, false, false, false, false, false, false, false, false] rfl rfl (any_of HT_.out (by kernel_rfl)) (fun _ _ _ h => h) (Or.inl ⟨by rfl, ?_⟩) ?_ ?_
            rotate_left
            · intro w'
              go_simp
              with_reducible rfl
            rotate_left
            · simp only [Act.put, List.setIfInBounds_toArray, List.set_cons_zero, List.set_cons_succ, i64_w, i32_w]
              rfl
            refine pure_ (i := 11) (N := some 113) (v := ?_) (a' := ?_) #[true, true, true, false, true, true, true, true, true, false, false, true, false, false, false, false, false, false, false, false, false] rfl rfl (any_of HT_.out (by kernel_rfl)) (fun _ _ _ h => h) (Or.inl ⟨by rfl, ?_⟩) ?_ ?_
            rotate_left
            · intro w'
              go_simp
              with_reducible rfl
            rotate_left
            · simp only [Act.put, List.setIfInBounds_toArray, List.set_cons_zero, List.set_cons_succ, i64_w, i32_w]
              rfl
            refine inv_at [3, 9, 10, 12, 13, 14, 15, 16, 17, 18, 19, 20] (fun a0_ b a w' => ∃ (q9 : Nat) (A10 : Option Addr) (c10 : Nat) (A12 : Option Addr) (c12 : Nat) (gb : Nat) (m9_ : Value) (m10_ : Value) (m12_ : Value) (m13_ : Value) (m14_ : Value) (m17_ : Value), a = putSel a0_ b [(3, 105, .slice A9 n1 c9), (9, 111, m9_), (10, 112, m10_), (12, 114, m12_), (13, 101, m13_), (14, 115, m14_), (15, 116, .int .i64 ((n1 : Int) + (kx : Int))), (16, 117, .int .i64 0), (17, 26, m17_), (19, 27, .int .i64 ((n1 : Int) + (kx : Int))), (20, 28, .int .i64 0)] ∧ (Below wd.heap.size wd w') ∧ (b 9 = true → b 10 = false → Kd.C (Kd.slice 46 k46) w' (some ⟨q9, 0, none⟩) 3 [front2.take kx, R1, M5]) ∧ (b 10 = true → b 12 = false → Kd.C k46 w' A10 nL L ∧ nL ≤ c10) ∧ (b 12 = true → Kd.R Kd.string 9 w' wd.heap.size (fun _ => True) (.slice A12 mm c12) ms) ∧ (b 17 = true → b 18 = false → w'.heap[gb]? = some (.cells #[.slice none 0 0, .int .i64 0] 27 (0, 0)) ∧ wd.heap.size ≤ gb) ∧ (b 12 = true → b 17 = true → some gb ≠ (Value.slice A12 mm c12).ownBlock) ∧ (b 18 = true → w'.heap[gb]? = some (.cells #[.slice A12 mm c12, .int .i64 x] 27 (0, 0)) ∧ wd.heap.size ≤ gb) ∧ (b 9 = true → (m9_ : Value) = .slice (some ⟨q9, 0, none⟩) 3 3) ∧ (b 10 = true → (m10_ : Value) = .slice A10 nL c10) ∧ (b 12 = true → (m12_ : Value) = .tuple #[.agg #[.slice A12 mm c12, .int .i64 x], .int .i64 ((n1 : Int) + (kx : Int)), .int .i64 0]) ∧ (b 13 = true → (m13_ : Value) = .tuple #[.agg #[.slice A12 mm c12, .int .i64 x], .int .i64 ((n1 : Int) + (kx : Int)), .int .i64 0]) ∧ (b 14 = true → (m14_ : Value) = .agg #[.slice A12 mm c12, .int .i64 x]) ∧ (b 17 = true → (m17_ : Value) = .pointer (some ⟨gb, 0, none⟩))) HT_.out HW_.out (by kernel_rfl) (by kernel_rfl) ?_ ?_ ?_
            · exact ⟨0, none, 0, none, 0, 0, .bool false, .bool false, .bool false, .bool false, .bool false, .bool false, by simp only [putSel, Bool.false_eq_true, if_false], Below.refl _ _, fun h_ => absurd h_ (by decide), fun h_ => absurd h_ (by decide), fun h_ => absurd h_ (by decide), fun h_ => absurd h_ (by decide), fun h_ => absurd h_ (by decide), fun h_ => absurd h_ (by decide), fun h_ => absurd h_ (by decide), fun h_ => absurd h_ (by decide), fun h_ => absurd h_ (by decide), fun h_ => absurd h_ (by decide), fun h_ => absurd h_ (by decide), fun h_ => absurd h_ (by decide)⟩
            · skip
              refine steps_cons ?_ ?_
              · rintro b a w' ⟨q9, A10, c10, A12, c12, gb, m9_, m10_, m12_, m13_, m14_, m17_, ha, Q_B0, Q_F9, Q_F10, Q_F12, Q_F17, Q_FX, Q_F18, Q_X9_, Q_X10_, Q_X12_, Q_X13_, Q_X14_, Q_X17_⟩ hb_ hon hoff
                refine ⟨_, rfl, fun K hK => ?_⟩
                have e10 : a.tmps[10]? = some (.pointer (some ⟨B, 0, none⟩)) := by rw [ha]; exact (putSel_off rfl).trans rfl
                replace ha := Aside0.mk ha
                have B0 := Aside0.mk Q_B0
                have x3 : w'.cell? ⟨B, 0, none⟩ = some (.slice A9 n1 c9) := (B0.out.cell (World.block_lt_of_cell? _ _ G10.out)).trans G10.out
                refine value_ (w1 := w') (v := .slice A9 n1 c9) (by rfl) rfl ?_ ?_
                · go_simp
                  (try simp only [i64_w])
                  try rfl
                refine hK.out _ _ ⟨q9, A10, c10, A12, c12, gb, m9_, m10_, m12_, m13_, m14_, m17_, (by rw [ha.out]; exact putSel_upk 0 hb_ rfl rfl rfl), Q_B0, fun h0_ _ => absurd ((hoff 9 (by kernel_rfl)).symm.trans h0_) (by decide), fun h0_ _ => absurd ((hoff 10 (by kernel_rfl)).symm.trans h0_) (by decide), fun h0_ => absurd ((hoff 12 (by kernel_rfl)).symm.trans h0_) (by decide), Q_F17, fun h0_ _ => absurd ((hoff 12 (by kernel_rfl)).symm.trans h0_) (by decide), fun h0_ => absurd ((hoff 18 (by kernel_rfl)).symm.trans h0_) (by decide), fun h0_ => absurd ((hoff 9 (by kernel_rfl)).symm.trans h0_) (by decide), fun h0_ => absurd ((hoff 10 (by kernel_rfl)).symm.trans h0_) (by decide), fun h0_ => absurd ((hoff 12 (by kernel_rfl)).symm.trans h0_) (by decide), fun h0_ => absurd ((hoff 13 (by kernel_rfl)).symm.trans h0_) (by decide), fun h0_ => absurd ((hoff 14 (by kernel_rfl)).symm.trans h0_) (by decide), Q_X17_⟩
              refine steps_cons ?_ ?_
              · rintro b a w' ⟨q9, A10, c10, A12, c12, gb, m9_, m10_, m12_, m13_, m14_, m17_, ha, Q_B0, Q_F9, Q_F10, Q_F12, Q_F17, Q_FX, Q_F18, Q_X9_, Q_X10_, Q_X12_, Q_X13_, Q_X14_, Q_X17_⟩ hb_ hon hoff
                refine ⟨_, rfl, fun K hK => ?_⟩
                have e104 : a.tmps[104]? = some (.slice (some ⟨bf, 0, none⟩) kx 2) := by rw [ha]; exact (putSel_off rfl).trans rfl
                have e105 : a.tmps[105]? = some (.slice A9 n1 c9) := by rw [ha]; exact putSel_on (e := (3, 105, .slice A9 n1 c9)) 0 rfl rfl (hon 3 (by kernel_rfl)) rfl
                have e110 : a.tmps[110]? = some (.slice Am q cm) := by rw [ha]; exact (putSel_off rfl).trans rfl
                replace ha := Aside0.mk ha
                have B0 := Aside0.mk Q_B0
                have hb : Below w'.heap.size w' (w'.alloc (.cells #[.slice (some ⟨bf, 0, none⟩) kx 2, .slice A9 n1 c9, .slice Am q cm] 23)) := (Below.refl _ _).alloc (Nat.le_refl _) _
                refine value_ (w1 := w'.alloc (.cells #[.slice (some ⟨bf, 0, none⟩) kx 2, .slice A9 n1 c9, .slice Am q cm] 23)) (v := .slice (some ⟨w'.heap.size, 0, none⟩) 3 3) (by rfl) rfl ?_ ?_
                · go_simp
                  try rfl
                refine hK.out _ _ ⟨w'.heap.size, A10, c10, A12, c12, gb, (.slice (some ⟨w'.heap.size, 0, none⟩) 3 3), m10_, m12_, m13_, m14_, m17_, (by rw [ha.out]; exact putSel_upk 1 hb_ rfl rfl rfl), (B0.out.trans (hb.mono B0.out.size)), fun _ _ => lit3 w' (some ⟨bf, 0, none⟩) kx 2 (front2.take kx) A9 n1 c9 R1 Am q cm M5 ⟨Kd.C_below GF.out.1 B0.out, GF.out.2⟩ ⟨Kd.C_below GC.out.1 B0.out, GC.out.2⟩ ⟨Kd.C_below GM.out.1 B0.out, GM.out.2⟩, fun h0_ _ => absurd ((hoff 10 (by kernel_rfl)).symm.trans h0_) (by decide), fun h0_ => absurd ((hoff 12 (by kernel_rfl)).symm.trans h0_) (by decide), fun h0_ h1_ => ⟨blk_below (Q_F17 h0_ h1_).1 hb, (Q_F17 h0_ h1_).2⟩, fun h0_ _ => absurd ((hoff 12 (by kernel_rfl)).symm.trans h0_) (by decide), fun h0_ => absurd ((hoff 18 (by kernel_rfl)).symm.trans h0_) (by decide), fun _ => rfl, fun h0_ => absurd ((hoff 10 (by kernel_rfl)).symm.trans h0_) (by decide), fun h0_ => absurd ((hoff 12 (by kernel_rfl)).symm.trans h0_) (by decide), fun h0_ => absurd ((hoff 13 (by kernel_rfl)).symm.trans h0_) (by decide), fun h0_ => absurd ((hoff 14 (by kernel_rfl)).symm.trans h0_) (by decide), Q_X17_⟩
              refine steps_cons ?_ ?_
              · rintro b a w' ⟨q9, A10, c10, A12, c12, gb, m9_, m10_, m12_, m13_, m14_, m17_, ha, Q_B0, Q_F9, Q_F10, Q_F12, Q_F17, Q_FX, Q_F18, Q_X9_, Q_X10_, Q_X12_, Q_X13_, Q_X14_, Q_X17_⟩ hb_ hon hoff
                refine ⟨_, rfl, fun K hK => ?_⟩
                have e111 : a.tmps[111]? = some (m9_) := by rw [ha]; exact putSel_on (e := (9, 111, m9_)) 1 rfl rfl (hon 9 (by kernel_rfl)) rfl
                rw [Q_X9_ (hon 9 (by kernel_rfl))] at e111
                replace ha := Aside0.mk ha
                have B0 := Aside0.mk Q_B0
                have F9 := Aside0.mk (Q_F9 (hon 9 (by kernel_rfl)) hb_)
                refine goes_ Tryd.func27 (by kernel_rfl) rfl #[.slice (some ⟨q9, 0, none⟩) 3 3] (by rfl) rfl rfl (by first | (simp only [List.map_toArray, List.map_cons, List.map_nil, Act.eval, Array.getD_eq_getD_getElem?, Option.getD_some, e111]; done) | (simp only [List.map_toArray, List.map_cons, List.map_nil, Act.eval, Array.getD_eq_getD_getElem?, Option.getD_some, e111]; rfl)) ?_
                with_reducible refine (concat3_call (front2.take kx) R1 M5 L HLL.out.1 nL HLL.out.2 HNL.out.1 HNL.out.2 w' (some ⟨q9, 0, none⟩) F9.out).mono ?_
                rintro e w1 ⟨A10', c10', rfl, hr, hb⟩
                refine ⟨_, rfl, ?_⟩
                refine hK.out _ _ ⟨q9, A10', c10', A12, c12, gb, m9_, (.slice A10' nL c10'), m12_, m13_, m14_, m17_, (by rw [ha.out]; exact putSel_upk 2 hb_ rfl rfl rfl), (B0.out.trans (hb.mono B0.out.size)), fun _ h1_ => absurd ((up_self b 10).symm.trans h1_) (by decide), fun _ _ => hr, fun h0_ => absurd ((hoff 12 (by kernel_rfl)).symm.trans h0_) (by decide), fun h0_ h1_ => ⟨blk_below (Q_F17 h0_ h1_).1 hb, (Q_F17 h0_ h1_).2⟩, fun h0_ _ => absurd ((hoff 12 (by kernel_rfl)).symm.trans h0_) (by decide), fun h0_ => absurd ((hoff 18 (by kernel_rfl)).symm.trans h0_) (by decide), Q_X9_, fun _ => rfl, fun h0_ => absurd ((hoff 12 (by kernel_rfl)).symm.trans h0_) (by decide), fun h0_ => absurd ((hoff 13 (by kernel_rfl)).symm.trans h0_) (by decide), fun h0_ => absurd ((hoff 14 (by kernel_rfl)).symm.trans h0_) (by decide), Q_X17_⟩
              refine steps_cons ?_ ?_
              · rintro b a w' ⟨q9, A10, c10, A12, c12, gb, m9_, m10_, m12_, m13_, m14_, m17_, ha, Q_B0, Q_F9, Q_F10, Q_F12, Q_F17, Q_FX, Q_F18, Q_X9_, Q_X10_, Q_X12_, Q_X13_, Q_X14_, Q_X17_⟩ hb_ hon hoff
                refine ⟨_, rfl, fun K hK => ?_⟩
                have e112 : a.tmps[112]? = some (m10_) := by rw [ha]; exact putSel_on (e := (10, 112, m10_)) 2 rfl rfl (hon 10 (by kernel_rfl)) rfl
                rw [Q_X10_ (hon 10 (by kernel_rfl))] at e112
                have e113 : a.tmps[113]? = some (.int .i64 (kx : Int)) := by rw [ha]; exact (putSel_off rfl).trans rfl
                replace ha := Aside0.mk ha
                have B0 := Aside0.mk Q_B0
                have F10 := Aside0.mk (Q_F10 (hon 10 (by kernel_rfl)) hb_)
                refine goes_ Tryd.func10 (by kernel_rfl) rfl #[.slice A10 nL c10, .int .i64 (kx : Int)] (by rfl) rfl rfl (by first | (simp only [List.map_toArray, List.map_cons, List.map_nil, Act.eval, Array.getD_eq_getD_getElem?, Option.getD_some, e112, e113]; done) | (simp only [List.map_toArray, List.map_cons, List.map_nil, Act.eval, Array.getD_eq_getD_getElem?, Option.getD_some, e112, e113]; rfl)) ?_
                with_reducible refine (HPP.out w' B0.out A10 c10 F10.out.1 F10.out.2).mono ?_
                rintro e w1 ⟨A12', c12', rfl, hr, hb⟩
                refine ⟨_, rfl, ?_⟩
                refine hK.out _ _ ⟨q9, A10, c10, A12', c12', gb, m9_, m10_, (.tuple #[.agg #[.slice A12' mm c12', .int .i64 x], .int .i64 ((n1 : Int) + (kx : Int)), .int .i64 0]), m13_, m14_, m17_, (by rw [ha.out]; exact putSel_upk 3 hb_ rfl rfl rfl), (B0.out.trans (hb.mono B0.out.size)), fun _ h1_ => absurd ((hon 10 (by kernel_rfl)).symm.trans h1_) (by decide), fun _ h1_ => absurd ((up_self b 12).symm.trans h1_) (by decide), fun _ => Kd.R_lower hr B0.out.size, fun h0_ h1_ => ⟨blk_below (Q_F17 h0_ h1_).1 hb, (Q_F17 h0_ h1_).2⟩, fun _ h17_ => own_neS hr (blk_lt (Q_F17 h17_ (hoff 18 (by kernel_rfl))).1), fun h0_ => absurd ((hoff 18 (by kernel_rfl)).symm.trans h0_) (by decide), Q_X9_, Q_X10_, fun _ => rfl, fun h0_ => absurd ((hoff 13 (by kernel_rfl)).symm.trans h0_) (by decide), fun h0_ => absurd ((hoff 14 (by kernel_rfl)).symm.trans h0_) (by decide), Q_X17_⟩
              refine steps_cons ?_ ?_
              · rintro b a w' ⟨q9, A10, c10, A12, c12, gb, m9_, m10_, m12_, m13_, m14_, m17_, ha, Q_B0, Q_F9, Q_F10, Q_F12, Q_F17, Q_FX, Q_F18, Q_X9_, Q_X10_, Q_X12_, Q_X13_, Q_X14_, Q_X17_⟩ hb_ hon hoff
                refine ⟨_, rfl, fun K hK => ?_⟩
                have e114 : a.tmps[114]? = some (m12_) := by rw [ha]; exact putSel_on (e := (12, 114, m12_)) 3 rfl rfl (hon 12 (by kernel_rfl)) rfl
                rw [Q_X12_ (hon 12 (by kernel_rfl))] at e114
                replace ha := Aside0.mk ha
                have B0 := Aside0.mk Q_B0
                have F12 := Aside0.mk (Q_F12 (hon 12 (by kernel_rfl)))
                refine value_ (w1 := w') (v := .tuple #[.agg #[.slice A12 mm c12, .int .i64 x], .int .i64 ((n1 : Int) + (kx : Int)), .int .i64 0]) (by rfl) rfl ?_ ?_
                · go_simp
                  (try simp only [i64_w])
                  try rfl
                refine hK.out _ _ ⟨q9, A10, c10, A12, c12, gb, m9_, m10_, m12_, (.tuple #[.agg #[.slice A12 mm c12, .int .i64 x], .int .i64 ((n1 : Int) + (kx : Int)), .int .i64 0]), m14_, m17_, (by rw [ha.out]; exact putSel_upk 4 hb_ rfl rfl rfl), Q_B0, fun _ h1_ => absurd ((hon 10 (by kernel_rfl)).symm.trans h1_) (by decide), fun _ h1_ => absurd ((hon 12 (by kernel_rfl)).symm.trans h1_) (by decide), Q_F12, Q_F17, Q_FX, fun h0_ => absurd ((hoff 18 (by kernel_rfl)).symm.trans h0_) (by decide), Q_X9_, Q_X10_, Q_X12_, fun _ => rfl, fun h0_ => absurd ((hoff 14 (by kernel_rfl)).symm.trans h0_) (by decide), Q_X17_⟩
              refine steps_cons ?_ ?_
              · rintro b a w' ⟨q9, A10, c10, A12, c12, gb, m9_, m10_, m12_, m13_, m14_, m17_, ha, Q_B0, Q_F9, Q_F10, Q_F12, Q_F17, Q_FX, Q_F18, Q_X9_, Q_X10_, Q_X12_, Q_X13_, Q_X14_, Q_X17_⟩ hb_ hon hoff
                refine ⟨_, rfl, fun K hK => ?_⟩
                have e101 : a.tmps[101]? = some (m13_) := by rw [ha]; exact putSel_on (e := (13, 101, m13_)) 4 rfl rfl (hon 13 (by kernel_rfl)) rfl
                rw [Q_X13_ (hon 13 (by kernel_rfl))] at e101
                replace ha := Aside0.mk ha
                have B0 := Aside0.mk Q_B0
                have F12 := Aside0.mk (Q_F12 (hon 12 (by kernel_rfl)))
                refine value_ (w1 := w') (v := .agg #[.slice A12 mm c12, .int .i64 x]) (by rfl) rfl ?_ ?_
                · go_simp
                  (try simp only [i64_w])
                  try rfl
                refine hK.out _ _ ⟨q9, A10, c10, A12, c12, gb, m9_, m10_, m12_, m13_, (.agg #[.slice A12 mm c12, .int .i64 x]), m17_, (by rw [ha.out]; exact putSel_upk 5 hb_ rfl rfl rfl), Q_B0, fun _ h1_ => absurd ((hon 10 (by kernel_rfl)).symm.trans h1_) (by decide), fun _ h1_ => absurd ((hon 12 (by kernel_rfl)).symm.trans h1_) (by decide), Q_F12, Q_F17, Q_FX, fun h0_ => absurd ((hoff 18 (by kernel_rfl)).symm.trans h0_) (by decide), Q_X9_, Q_X10_, Q_X12_, Q_X13_, fun _ => rfl, Q_X17_⟩
              refine steps_cons ?_ ?_
              · rintro b a w' ⟨q9, A10, c10, A12, c12, gb, m9_, m10_, m12_, m13_, m14_, m17_, ha, Q_B0, Q_F9, Q_F10, Q_F12, Q_F17, Q_FX, Q_F18, Q_X9_, Q_X10_, Q_X12_, Q_X13_, Q_X14_, Q_X17_⟩ hb_ hon hoff
                refine ⟨_, rfl, fun K hK => ?_⟩
                have e101 : a.tmps[101]? = some (m13_) := by rw [ha]; exact putSel_on (e := (13, 101, m13_)) 4 rfl rfl (hon 13 (by kernel_rfl)) rfl
                rw [Q_X13_ (hon 13 (by kernel_rfl))] at e101
                replace ha := Aside0.mk ha
                have B0 := Aside0.mk Q_B0
                have F12 := Aside0.mk (Q_F12 (hon 12 (by kernel_rfl)))
                refine value_ (w1 := w') (v := .int .i64 ((n1 : Int) + (kx : Int))) (by rfl) rfl ?_ ?_
                · go_simp
                  (try simp only [i64_w])
                  try rfl
                refine hK.out _ _ ⟨q9, A10, c10, A12, c12, gb, m9_, m10_, m12_, m13_, m14_, m17_, (by rw [ha.out]; exact putSel_upk 6 hb_ rfl rfl rfl), Q_B0, fun _ h1_ => absurd ((hon 10 (by kernel_rfl)).symm.trans h1_) (by decide), fun _ h1_ => absurd ((hon 12 (by kernel_rfl)).symm.trans h1_) (by decide), Q_F12, Q_F17, Q_FX, Q_F18, Q_X9_, Q_X10_, Q_X12_, Q_X13_, Q_X14_, Q_X17_⟩
              refine steps_cons ?_ ?_
              · rintro b a w' ⟨q9, A10, c10, A12, c12, gb, m9_, m10_, m12_, m13_, m14_, m17_, ha, Q_B0, Q_F9, Q_F10, Q_F12, Q_F17, Q_FX, Q_F18, Q_X9_, Q_X10_, Q_X12_, Q_X13_, Q_X14_, Q_X17_⟩ hb_ hon hoff
                refine ⟨_, rfl, fun K hK => ?_⟩
                have e101 : a.tmps[101]? = some (m13_) := by rw [ha]; exact putSel_on (e := (13, 101, m13_)) 4 rfl rfl (hon 13 (by kernel_rfl)) rfl
                rw [Q_X13_ (hon 13 (by kernel_rfl))] at e101
                replace ha := Aside0.mk ha
                have B0 := Aside0.mk Q_B0
                have F12 := Aside0.mk (Q_F12 (hon 12 (by kernel_rfl)))
                refine value_ (w1 := w') (v := .int .i64 0) (by rfl) rfl ?_ ?_
                · go_simp
                  (try simp only [i64_w])
                  try rfl
                refine hK.out _ _ ⟨q9, A10, c10, A12, c12, gb, m9_, m10_, m12_, m13_, m14_, m17_, (by rw [ha.out]; exact putSel_upk 7 hb_ rfl rfl rfl), Q_B0, fun _ h1_ => absurd ((hon 10 (by kernel_rfl)).symm.trans h1_) (by decide), fun _ h1_ => absurd ((hon 12 (by kernel_rfl)).symm.trans h1_) (by decide), Q_F12, Q_F17, Q_FX, Q_F18, Q_X9_, Q_X10_, Q_X12_, Q_X13_, Q_X14_, Q_X17_⟩
              refine steps_cons ?_ ?_
              · rintro b a w' ⟨q9, A10, c10, A12, c12, gb, m9_, m10_, m12_, m13_, m14_, m17_, ha, Q_B0, Q_F9, Q_F10, Q_F12, Q_F17, Q_FX, Q_F18, Q_X9_, Q_X10_, Q_X12_, Q_X13_, Q_X14_, Q_X17_⟩ hb_ hon hoff
                refine ⟨_, rfl, fun K hK => ?_⟩
                replace ha := Aside0.mk ha
                have B0 := Aside0.mk Q_B0
                have hb : Below w'.heap.size w' (w'.alloc (.cells #[.slice none 0 0, .int .i64 0] 27)) := (Below.refl _ _).alloc (Nat.le_refl _) _
                refine value_ (w1 := w'.alloc (.cells #[.slice none 0 0, .int .i64 0] 27)) (v := .pointer (some ⟨w'.heap.size, 0, none⟩)) (by rfl) rfl ?_ ?_
                · go_simp
                  try rfl
                refine hK.out _ _ ⟨q9, A10, c10, A12, c12, w'.heap.size, m9_, m10_, m12_, m13_, m14_, (.pointer (some ⟨w'.heap.size, 0, none⟩)), (by rw [ha.out]; exact putSel_upk 8 hb_ rfl rfl rfl), (B0.out.trans (hb.mono B0.out.size)), fun h0_ h1_ => Kd.C_below (Q_F9 h0_ h1_) hb, fun h0_ h1_ => ⟨Kd.C_below (Q_F10 h0_ h1_).1 hb, (Q_F10 h0_ h1_).2⟩, fun h0_ => Kd.R_below (Q_F12 h0_) hb, fun _ _ => ⟨blk_new w' _, B0.out.size⟩, fun h12_ _ => own_newS (Q_F12 h12_), fun h0_ => absurd ((hoff 18 (by kernel_rfl)).symm.trans h0_) (by decide), Q_X9_, Q_X10_, Q_X12_, Q_X13_, Q_X14_, fun _ => rfl⟩
              refine steps_cons ?_ ?_
              · rintro b a w' ⟨q9, A10, c10, A12, c12, gb, m9_, m10_, m12_, m13_, m14_, m17_, ha, Q_B0, Q_F9, Q_F10, Q_F12, Q_F17, Q_FX, Q_F18, Q_X9_, Q_X10_, Q_X12_, Q_X13_, Q_X14_, Q_X17_⟩ hb_ hon hoff
                refine ⟨_, rfl, fun K hK => ?_⟩
                have e26 : a.tmps[26]? = some (m17_) := by rw [ha]; exact putSel_on (e := (17, 26, m17_)) 8 rfl rfl (hon 17 (by kernel_rfl)) rfl
                rw [Q_X17_ (hon 17 (by kernel_rfl))] at e26
                have e115 : a.tmps[115]? = some (m14_) := by rw [ha]; exact putSel_on (e := (14, 115, m14_)) 5 rfl rfl (hon 14 (by kernel_rfl)) rfl
                rw [Q_X14_ (hon 14 (by kernel_rfl))] at e115
                replace ha := Aside0.mk ha
                have B0 := Aside0.mk Q_B0
                have F12 := Aside0.mk (Q_F12 (hon 12 (by kernel_rfl)))
                have F17 := Aside0.mk (Q_F17 (hon 17 (by kernel_rfl)) hb_)
                have FX := Aside0.mk (Q_FX (hon 12 (by kernel_rfl)) (hon 17 (by kernel_rfl)))
                have hs0 : w'.cell? ⟨gb, 0, none⟩ = some (.slice none 0 0) := (blk_cell F17.out.1 0).trans rfl
                have hf0 := blk_frozen F17.out.1 0
                have hs1 : w'.cell? ⟨gb, 1, none⟩ = some (.int .i64 0) := (blk_cell F17.out.1 1).trans rfl
                have hf1 := blk_frozen F17.out.1 1
                refine skip_ (w1 := (w'.setCell ⟨gb, 0, none⟩ (.slice A12 mm c12)).setCell ⟨gb, 1, none⟩ (.int .i64 x)) (by rfl) rfl ?_ ?_
                · go_simp
                  try rfl
                refine hK.out _ _ ⟨q9, A10, c10, A12, c12, gb, m9_, m10_, m12_, m13_, m14_, m17_, (by rw [ha.out]; exact putSel_none (v := undef) rfl), below_set (below_set B0.out F17.out.2) F17.out.2, fun _ h1_ => absurd ((hon 10 (by kernel_rfl)).symm.trans h1_) (by decide), fun _ h1_ => absurd ((hon 12 (by kernel_rfl)).symm.trans h1_) (by decide), fun _ => far2S F12.out FX.out _ _, fun _ h1_ => absurd ((up_self b 18).symm.trans h1_) (by decide), Q_FX, fun _ => ⟨blk_put (blk_put F17.out.1 0 _ rfl) 1 _ rfl, F17.out.2⟩, Q_X9_, Q_X10_, Q_X12_, Q_X13_, Q_X14_, Q_X17_⟩
              refine steps_cons ?_ ?_
              · rintro b a w' ⟨q9, A10, c10, A12, c12, gb, m9_, m10_, m12_, m13_, m14_, m17_, ha, Q_B0, Q_F9, Q_F10, Q_F12, Q_F17, Q_FX, Q_F18, Q_X9_, Q_X10_, Q_X12_, Q_X13_, Q_X14_, Q_X17_⟩ hb_ hon hoff
                refine ⟨_, rfl, fun K hK => ?_⟩
                have e116 : a.tmps[116]? = some (.int .i64 ((n1 : Int) + (kx : Int))) := by rw [ha]; exact putSel_on (e := (15, 116, .int .i64 ((n1 : Int) + (kx : Int)))) 6 rfl rfl (hon 15 (by kernel_rfl)) rfl
                replace ha := Aside0.mk ha
                have B0 := Aside0.mk Q_B0
                have F12 := Aside0.mk (Q_F12 (hon 12 (by kernel_rfl)))
                have FX := Aside0.mk (Q_FX (hon 12 (by kernel_rfl)) (hon 17 (by kernel_rfl)))
                have F18 := Aside0.mk (Q_F18 (hon 18 (by kernel_rfl)))
                refine value_ (w1 := w') (v := .int .i64 ((n1 : Int) + (kx : Int))) (by rfl) rfl ?_ ?_
                · go_simp
                  (try simp only [i64_w])
                  try rfl
                refine hK.out _ _ ⟨q9, A10, c10, A12, c12, gb, m9_, m10_, m12_, m13_, m14_, m17_, (by rw [ha.out]; exact putSel_upk 9 hb_ rfl rfl rfl), Q_B0, fun _ h1_ => absurd ((hon 10 (by kernel_rfl)).symm.trans h1_) (by decide), fun _ h1_ => absurd ((hon 12 (by kernel_rfl)).symm.trans h1_) (by decide), Q_F12, fun _ h1_ => absurd ((hon 18 (by kernel_rfl)).symm.trans h1_) (by decide), Q_FX, Q_F18, Q_X9_, Q_X10_, Q_X12_, Q_X13_, Q_X14_, Q_X17_⟩
              refine steps_cons ?_ ?_
              · rintro b a w' ⟨q9, A10, c10, A12, c12, gb, m9_, m10_, m12_, m13_, m14_, m17_, ha, Q_B0, Q_F9, Q_F10, Q_F12, Q_F17, Q_FX, Q_F18, Q_X9_, Q_X10_, Q_X12_, Q_X13_, Q_X14_, Q_X17_⟩ hb_ hon hoff
                refine ⟨_, rfl, fun K hK => ?_⟩
                have e117 : a.tmps[117]? = some (.int .i64 0) := by rw [ha]; exact putSel_on (e := (16, 117, .int .i64 0)) 7 rfl rfl (hon 16 (by kernel_rfl)) rfl
                replace ha := Aside0.mk ha
                have B0 := Aside0.mk Q_B0
                have F12 := Aside0.mk (Q_F12 (hon 12 (by kernel_rfl)))
                have FX := Aside0.mk (Q_FX (hon 12 (by kernel_rfl)) (hon 17 (by kernel_rfl)))
                have F18 := Aside0.mk (Q_F18 (hon 18 (by kernel_rfl)))
                refine value_ (w1 := w') (v := .int .i64 0) (by rfl) rfl ?_ ?_
                · go_simp
                  (try simp only [i64_w])
                  try rfl
                refine hK.out _ _ ⟨q9, A10, c10, A12, c12, gb, m9_, m10_, m12_, m13_, m14_, m17_, (by rw [ha.out]; exact putSel_upk 10 hb_ rfl rfl rfl), Q_B0, fun _ h1_ => absurd ((hon 10 (by kernel_rfl)).symm.trans h1_) (by decide), fun _ h1_ => absurd ((hon 12 (by kernel_rfl)).symm.trans h1_) (by decide), Q_F12, fun _ h1_ => absurd ((hon 18 (by kernel_rfl)).symm.trans h1_) (by decide), Q_FX, Q_F18, Q_X9_, Q_X10_, Q_X12_, Q_X13_, Q_X14_, Q_X17_⟩
              exact steps_nil
            · rintro b a w' hall ⟨q9, A10, c10, A12, c12, gb, m9_, m10_, m12_, m13_, m14_, m17_, ha, Q_B0, Q_F9, Q_F10, Q_F12, Q_F17, Q_FX, Q_F18, Q_X9_, Q_X10_, Q_X12_, Q_X13_, Q_X14_, Q_X17_⟩
              have hb3_ := hall 3 (by kernel_rfl)
              have hb9_ := hall 9 (by kernel_rfl)
              have hb10_ := hall 10 (by kernel_rfl)
              have hb12_ := hall 12 (by kernel_rfl)
              have hb13_ := hall 13 (by kernel_rfl)
              have hb14_ := hall 14 (by kernel_rfl)
              have hb15_ := hall 15 (by kernel_rfl)
              have hb16_ := hall 16 (by kernel_rfl)
              have hb17_ := hall 17 (by kernel_rfl)
              have hb18_ := hall 18 (by kernel_rfl)
              have hb19_ := hall 19 (by kernel_rfl)
              have hb20_ := hall 20 (by kernel_rfl)
              subst ha
              obtain rfl := Q_X9_ hb9_
              obtain rfl := Q_X10_ hb10_
              obtain rfl := Q_X12_ hb12_
              obtain rfl := Q_X13_ hb13_
              obtain rfl := Q_X14_ hb14_
              obtain rfl := Q_X17_ hb17_
              simp only [putSel, hb3_, hb9_, hb10_, hb12_, hb13_, hb14_, hb15_, hb16_, hb17_, hb18_, hb19_, hb20_, if_true, Act.put, List.setIfInBounds_toArray, List.set_cons_zero, List.set_cons_succ]
              have B0 := Aside0.mk Q_B0
              clear Q_B0
              clear Q_F9
              clear Q_F10
              have F12 := Aside0.mk (Q_F12 hb12_)
              clear Q_F12
              clear Q_F17
              have FX := Aside0.mk (Q_FX hb12_ hb17_)
              clear Q_FX
              have F18 := Aside0.mk (Q_F18 hb18_)
              clear Q_F18
              clear hall hb3_ hb9_ hb10_ hb12_ hb13_ hb14_ hb15_ hb16_ hb17_ hb18_ hb19_ hb20_
              clear HPP GC GF GM G10 HNL HLL FX hHeld
              have hz0 : w'.cell? ⟨gb, 0, none⟩ = some (.slice A12 mm c12) := (blk_cell F18.out.1 0).trans rfl
              have hz1 : w'.cell? ⟨gb, 1, none⟩ = some (.int .i64 x) := (blk_cell F18.out.1 1).trans rfl
              have HLW := Aside0.mk (HLD.out.trans (B0.out.mono HLD.out.size))
              have HEQ := Aside0.mk (Y.eqS_call ms mm HMM.out (by omega) w' A12 Ams c12 cms (by
                have h := (Kd.R_reads' F12.out).2.2
                rw [HMM.out] at h
                exact h) (Kd.R_reads' F12.out).2.1 (Kd.C_below HML.out.1 HLW.out) HML.out.2)
              clear F12 F18 HLD HBD B0
              go_upto_region 31 with (first
                | (go_at_call 20; (with_reducible refine HEQ.out.mono ?_); rintro e wz ⟨rfl, hbz⟩; have HBZ := Aside0.mk hbz; have hy1 : wz.cell? ⟨gb, 1, none⟩ = some (.int .i64 x) := keepC hz1 hbz; clear hbz hz1 hz0))
              clear hy1 HEQ
              go_wp2
              go_roundw
              case rel => exact ⟨j + 1, by omega, by go_num, Lib.hid (HLW.out.trans (HBZ.out.mono HLW.out.size))⟩
              case measure => simp [Go.RowKit.intOf]; omega
          · have hj2 : 2 = j := by omega
            subst hj2
            clear hlt hj
            have HBW := Aside0.mk (HBL.out.trans (HP.out.mono HBL.out.size))
            clear HP
            go_wp2_with (first
              | (go_at_call 15; (with_reducible refine (works_calls _ (HG.out.below HBW.out)).mono ?_); rintro e wg ⟨rfl, hbg⟩; have HBG := Aside0.mk hbg; clear hbg))
            go_ret
            exact ⟨rfl, HBW.out.trans (HBG.out.mono HBW.out.size)⟩
      have HJW := Lib.hid HJ
      clear hK HJ
      obtain ⟨w7, hw7⟩ : ∃ w7, w6.alloc (.cells #[.int .i64 2, .string (wordOf x), .int .i64 0] 46) = w7 := ⟨_, rfl⟩
      have h7 : w7.heap[b6]? = some (.cells #[.int .i64 2, .string (wordOf x), .int .i64 0] 46 (0, 0)) := by rw [← hw7, ← HB6S.out.1]; exact blk_new w6 _
      have HB7 := Aside0.mk (show Below w3.heap.size w3 w7 from hw7 ▸ HB36.out.alloc HB36.out.size _)
      have HX7 := Aside0.mk h7
      rw [hw7]
      have x0 : w7.cell? ⟨b6, 0, none⟩ = some (.int .i64 2) := (blk_cell h7 0).trans rfl
      have x1 : w7.cell? ⟨b6, 1, none⟩ = some (.string (wordOf x)) := (blk_cell h7 1).trans rfl
      have x2 : w7.cell? ⟨b6, 2, none⟩ = some (.int .i64 0) := (blk_cell h7 2).trans rfl
      have f0 := blk_frozen h7 0
      have f1 := blk_frozen h7 1
      have f2 := blk_frozen h7 2
      clear h7 hw7
      by_cases x0_ : x = 0
      · have hq0 : (x == 0) = true := beq_iff_eq.2 x0_
        have ht0 : t = ⟨4, ⟨#[42]⟩, 0⟩ := by
          rcases HT.out with h | h
          · exact h.2
          · exact absurd x0_ h.1
        clear x0_
        go_wp2
        exact HJW.out _ _ _ _ _ _ _ _ _ _ _ _ _ _ _ _ _ _ _ _ _ _ _ _ _ _ _ _ _ _ _ _ _ _ _ _ _ _ _ _ _ _ _ _ _ _ _ _ _ _ _ _ _ _ _ _ _ _ (Lib.hid ⟨below_set (below_set (below_set HB7.out HB6S.out.2) HB6S.out.2) HB6S.out.2, by rw [ht0]; exact blk_put (blk_put (blk_put HX7.out 0 _ rfl) 1 _ rfl) 2 _ rfl⟩)
      · have hq0 : (x == 0) = false := beq_eq_false_iff_ne.2 x0_
        have ht0 : t = ⟨2, wordOf x, 0⟩ := by
          rcases HT.out with h | h
          · exact absurd h.1 x0_
          · exact h.2
        clear x0_
        go_wp2
        exact HJW.out _ _ _ _ _ _ _ _ _ _ _ _ _ _ _ _ _ _ _ _ _ _ _ _ _ _ _ _ _ _ _ _ _ _ _ _ _ _ _ _ _ _ _ _ _ _ _ _ _ _ _ _ _ _ _ _ _ _ (Lib.hid ⟨HB7.out, by rw [ht0]; exact HX7.out⟩)
theorem Passes_calls (W : World) (A0 : Option Addr) (c0 : Nat) (l : List Int) (hC0 : Kd.C (Kd.int .u8) W A0 l.length l) (hc0 : l.length ≤ c0) (hl : ∀ x ∈ l, 0 ≤ x ∧ x ≤ 255) (r : Int) (hr0 : 0 ≤ r) (hr1 : r ≤ 255)
    (A : Option Addr) (c : Nat) (N : List (Int × Int)) (hcN : N.length ≤ c) (hN : ∀ (j : Nat) p, N[j]? = some p → ∃ ad, A = some ad ∧ W.cell? (ad.add (j * 2)) = some (.int .u8 p.1) ∧ W.cell? (ad.add (j * 2 + 1)) = some (.int .u8 p.2)) (hNr : ∀ p ∈ N, (0 ≤ p.1 ∧ p.1 ≤ 255) ∧ 0 ≤ p.2 ∧ p.2 ≤ 255)
    (Am : Option Addr) (cm : Nat) (more : List S46) (hCm : Kd.C k46 W Am more.length more) (hcm : more.length ≤ cm) (hms : ∀ t ∈ more, t.f1.size ≤ 9223372036854775807) (hg : Laid W) :
    Calls Tryd.prog 7 #[.slice A0 l.length c0, .int .u8 r, .slice A N.length c, .slice Am more.length cm] W fun e w' => e = .returned (.bool true) ∧ Below W.heap.size W w' := by
  refine passes_any W A0 c0 l hC0 hc0 hl r hr0 hr1 A c N hcN hN hNr Am cm more hCm hcm hms hg (r % 4) rfl (if r % 4 = 0 then ⟨4, ⟨#[42]⟩, 0⟩ else ⟨2, wordOf (r % 4), 0⟩) ?_
  by_cases h : r % 4 = 0
  · exact .inl ⟨h, by rw [if_pos h]⟩
  · exact .inr ⟨h, by rw [if_neg h]⟩
end Go.Proofs.YtlpoglkddknedaaDoor.Z

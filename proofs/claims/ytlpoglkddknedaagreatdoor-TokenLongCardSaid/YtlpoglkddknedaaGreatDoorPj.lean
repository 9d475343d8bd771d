/- The plain law of strings that are joined: what the scanner answers does not hang on the lines before. No program's walk in sight. -/
import Derived.Test.YtlpoglkddknedaaGreatDoorPz
namespace Go.Proofs.YtlpoglkddknedaaGreatDoor.P
open Go.RowKit Go.Proofs.YtlpoglkddknedaaGreatDoor.T Go.Proofs.YtlpoglkddknedaaGreatDoor.H Go.Proofs.YtlpoglkddknedaaGreatDoor.R Go.Proofs.YtlpoglkddknedaaGreatDoorW.PrintWords Go.Proofs.YtlpoglkddknedaaGreatDoorW.PrintLast
set_option linter.unusedVariables false
set_option linter.unusedSimpArgs false
theorem scan_eqB (s : ByteArray) (k : Nat) (i : Int) : scanN (k + 1) s i = (token_run.f (s.extract i.toNat s.size) (⟨#[32, 9, 13, 10]⟩ : ByteArray)).bind fun n => if 0 ≤ n ∧ i + n ≤ s.size then bodyN k s (i + n) else none := rfl
theorem body_mono (s : ByteArray) (k : Nat) (p : Int) (ih : ∀ j y, scanN k s j = some y → scanN (k + 1) s j = some y) (x : List S31 × Int) (h : bodyN k s p = some x) : bodyN (k + 1) s p = some x := by
  unfold bodyN at h ⊢
  by_cases hc : p = s.size
  · rw [if_pos hc] at h ⊢; exact h
  · rw [if_neg hc] at h ⊢
    by_cases hd : bt s p = 37 ∧ (p = 0 ∨ bt s (p - 1) = 10)
    · rw [if_pos hd] at h ⊢
      obtain ⟨m, hm, h⟩ := Option.bind_eq_some_iff.1 h
      rw [hm, Option.bind_some]
      by_cases h0 : 0 ≤ m
      · rw [if_pos h0] at h ⊢
        by_cases h1 : 1 ≤ m ∧ p + m ≤ s.size
        · rw [if_pos h1] at h ⊢; exact ih _ _ h
        · rw [if_neg h1] at h; cases h
      · rw [if_neg h0] at h ⊢; exact h
    · rw [if_neg hd] at h ⊢
      obtain ⟨t, ht, h⟩ := Option.bind_eq_some_iff.1 h
      rw [ht, Option.bind_some]
      by_cases h0 : 0 < t.2.2
      · rw [if_pos h0] at h ⊢
        by_cases h1 : p + t.2.2 ≤ s.size
        · rw [if_pos h1] at h ⊢
          obtain ⟨y, hy, he⟩ := Option.map_eq_some_iff.1 h
          rw [ih _ _ hy, Option.map_some, he]
        · rw [if_neg h1] at h; cases h
      · rw [if_neg h0] at h ⊢; exact h
theorem scan_mono (s : ByteArray) : ∀ (k : Nat) (i : Int) (x : List S31 × Int), scanN k s i = some x → scanN (k + 1) s i = some x
  | 0, i, x, h => by simp [scanN] at h
  | k + 1, i, x, h => by
    rw [scan_eqB] at h ⊢
    obtain ⟨n, hn, h⟩ := Option.bind_eq_some_iff.1 h
    rw [hn, Option.bind_some]
    by_cases hc : 0 ≤ n ∧ i + n ≤ s.size
    · rw [if_pos hc] at h ⊢; exact body_mono s k _ (fun j y => scan_mono s k j y) x h
    · rw [if_neg hc] at h; cases h
theorem scan_monos (s : ByteArray) (i : Int) (x : List S31 × Int) (k : Nat) (h : scanN k s i = some x) : ∀ d, scanN (k + d) s i = some x
  | 0 => h
  | d + 1 => scan_mono s (k + d) i x (scan_monos s i x k h d)
theorem scan_det (s : ByteArray) (i : Int) (x y : List S31 × Int) (k l : Nat) (h : scanN k s i = some x) (h' : scanN l s i = some y) : x = y := by
  have h1 := scan_monos s i x k h l
  have h2 := scan_monos s i y l h' k
  rw [Nat.add_comm, h2] at h1
  exact (Option.some.inj h1).symm
theorem idx_pos (c d : UInt8) (q : List UInt8) (h : (c != d) = true) : Lib.indexByte (c :: q) d < 0 ∨ (1 ≤ Lib.indexByte (c :: q) d ∧ Lib.indexByte (c :: q) d ≤ q.length) := by
  rw [idx_cons c d q h]
  split
  · right; omega
  · left; decide
/-- The scanner answers. -/
theorem scan_total (s : ByteArray) (hs : s.size ≤ 1099511627776) : ∀ (k i : Nat), i ≤ s.size → s.size - i + 1 ≤ k → ∃ t R, scanN k s (i : Int) = some (t, R) ∧ t.length + i ≤ s.size ∧ (R = -1 ∨ ((i : Int) ≤ R ∧ R < s.size)) ∧ ∀ x ∈ t, (i : Int) ≤ x.f2 ∧ x.f2 < (s.size : Int)
  | 0, i, hi, hk => absurd hk (by omega)
  | k + 1, i, hi, hk => by
    obtain ⟨m, hm⟩ : ∃ m, spnL (inS WS) ((D s).drop i) = m := ⟨_, rfl⟩
    have hle := spnL_le (inS WS) ((D s).drop i)
    rw [List.length_drop, D_len, hm] at hle
    obtain ⟨p, hp⟩ : ∃ p, i + m = p := ⟨_, rfl⟩
    rw [scan_at s hs k i m p hi hm hp]
    unfold bodyN
    by_cases hend : p = s.size
    · rw [if_pos (by omega)]
      exact ⟨[], -1, rfl, by simpa using hi, .inl rfl, fun x hx => absurd hx List.not_mem_nil⟩
    · rw [if_neg (by omega)]
      have hlt : p < s.size := by omega
      have hd : (D s).drop p = s[p] :: (D s).drop (p + 1) := drop_cons s p hlt
      have hx : s.extract (p : Int).toNat s.size = s.extract p s.size := by rw [Int.toNat_natCast]
      have h4 := ext_all s p
      rw [hd] at h4
      by_cases hc : bt s (p : Int) = 37 ∧ ((p : Int) = 0 ∨ bt s ((p : Int) - 1) = 10)
      · rw [if_pos hc, hx]
        unfold strings_IndexByte.f
        rw [Option.bind_some]
        have h37 : s[p].toNat = 37 := by have := hc.1; rw [bt_nat s p hlt] at this; omega
        have hcc : s[p] = 37 := eq_of_nat (n := 37) h37 (by decide)
        have h5 : Lib.indexByte (s.extract p s.size).data.toList (Int.toNat 10).toUInt8 = Lib.indexByte (s[p] :: (D s).drop (p + 1)) 10 := by
          rw [← h4]; rfl
        rw [h5]
        have h6 := idx_pos s[p] 10 ((D s).drop (p + 1)) (by rw [hcc]; decide)
        rw [List.length_drop, D_len] at h6
        obtain ⟨z, hz⟩ : ∃ z, Lib.indexByte (s[p] :: (D s).drop (p + 1)) 10 = z := ⟨_, rfl⟩
        rw [hz] at h6 ⊢
        by_cases h0 : 0 ≤ z
        · rw [if_pos h0, if_pos ⟨by omega, by omega⟩]
          obtain ⟨zn, rfl⟩ : ∃ zn : Nat, z = (zn : Int) := ⟨z.toNat, (Int.toNat_of_nonneg h0).symm⟩
          obtain ⟨t, R, h7, h8, h9, hA⟩ := scan_total s hs k (p + zn) (by omega) (by omega)
          rw [show (p : Int) + (zn : Int) = ((p + zn : Nat) : Int) by omega]
          exact ⟨t, R, h7, by omega, h9.imp id (fun h => ⟨by omega, h.2⟩), fun x hx => ⟨by have := (hA x hx).1; omega, (hA x hx).2⟩⟩
        · rw [if_neg h0]
          exact ⟨[], -1, rfl, by simpa using hi, .inl rfl, fun x hx => absurd hx List.not_mem_nil⟩
      · rw [if_neg hc, hx]
        have hxs : (s.extract p s.size).size = s.size - p := by rw [ByteArray.size_extract]; omega
        have h0' : (s.extract p s.size)[0]'(by omega) = s[p] := by
          have h3 : (D (s.extract p s.size))[0]'(by rw [D_len]; omega) = s[p] := by simp only [h4, List.getElem_cons_zero]
          exact h3
        have h1 : (D (s.extract p s.size)).drop 1 = (D s).drop (p + 1) := by rw [h4]; rfl
        have hone := one_eq (s.extract p s.size) (by omega) (by omega)
        rw [h0', h1] at hone
        rw [hone, Option.bind_some]
        have hb := tokS_bound s[p] ((D s).drop (p + 1))
        rw [List.length_drop, D_len] at hb
        obtain ⟨e, hee⟩ : ∃ e : Nat, (tokS s[p] ((D s).drop (p + 1))).2.2 = (e : Int) := ⟨_, (Int.toNat_of_nonneg hb.1).symm⟩
        rw [hee] at hb ⊢
        by_cases he : 0 < (e : Int)
        · rw [if_pos he, if_pos (by omega)]
          obtain ⟨t, R, h7, h8, h9, hA⟩ := scan_total s hs k (p + e) (by omega) (by omega)
          rw [show (p : Int) + (e : Int) = ((p + e : Nat) : Int) by omega, h7]
          refine ⟨_, R, rfl, by dsimp only; rw [List.length_cons]; omega, h9.imp id (fun h => ⟨by omega, h.2⟩), fun x hx => ?_⟩
          rcases List.mem_cons.1 hx with rfl | hx
          · exact ⟨by dsimp only; omega, by dsimp only; omega⟩
          · exact ⟨by have := (hA x hx).1; omega, (hA x hx).2⟩
        · rw [if_neg he]
          exact ⟨[], (p : Int), rfl, by simpa using hi, .inr ⟨by omega, by omega⟩, fun x hx => absurd hx List.not_mem_nil⟩
def shT (o : Nat) (x : S31) : S31 := ⟨x.f0, x.f1, x.f2 + (o : Int)⟩
/-- A line moved by o bytes. -/
theorem scan_shift (S m : ByteArray) (hS : S.size ≤ 1099511627776) (o : Nat) (ho : 1 ≤ o) (hd : (D S).drop o = D m) (h10 : bt S ((o - 1 : Nat) : Int) = 10) (hsz : o + m.size = S.size) :
    ∀ (k i : Nat) (t : List S31) (R : Int), i ≤ m.size → scanN k m (i : Int) = some (t, R) → scanN k S ((o + i : Nat) : Int) = some (t.map (shT o), if R < 0 then R else R + (o : Int))
  | 0, i, t, R, hi, h => by simp [scanN] at h
  | k + 1, i, t, R, hi, h => by
    have hdr : ∀ j, (D S).drop (o + j) = (D m).drop j := fun j => by rw [← List.drop_drop, hd]
    obtain ⟨n, hn⟩ : ∃ n, spnL (inS WS) ((D m).drop i) = n := ⟨_, rfl⟩
    have hle := spnL_le (inS WS) ((D m).drop i)
    rw [List.length_drop, D_len, hn] at hle
    obtain ⟨p, hp⟩ : ∃ p, i + n = p := ⟨_, rfl⟩
    rw [scan_at m (by omega) k i n p hi hn hp] at h
    rw [scan_at S hS k (o + i) n (o + p) (by omega) (by rw [hdr]; exact hn) (by omega)]
    have hex : S.extract ((o + p : Nat) : Int).toNat S.size = m.extract (p : Int).toNat m.size := by
      rw [Int.toNat_natCast, Int.toNat_natCast]
      exact D_inj (by rw [ext_all, ext_all, hdr])
    have hbt : ∀ j, j < m.size → bt S ((o + j : Nat) : Int) = bt m (j : Int) := by
      intro j hj
      have h1 := hdr j
      have h2 : (D m).drop j = m[j] :: (D m).drop (j + 1) := drop_cons m j hj
      rw [h2] at h1
      obtain ⟨h3, h4, _⟩ := bt_drop h1
      rw [bt_nat S _ h3, bt_nat m _ hj, h4]
    unfold bodyN at h ⊢
    rw [hex]
    by_cases hend : p = m.size
    · rw [if_pos (by omega)] at h ⊢
      obtain ⟨rfl, rfl⟩ := Prod.mk.inj (Option.some.inj h)
      rfl
    · rw [if_neg (by omega)] at h ⊢
      have hlt : p < m.size := by omega
      have hcc : (bt S ((o + p : Nat) : Int) = 37 ∧ (((o + p : Nat) : Int) = 0 ∨ bt S (((o + p : Nat) : Int) - 1) = 10)) ↔ (bt m (p : Int) = 37 ∧ ((p : Int) = 0 ∨ bt m ((p : Int) - 1) = 10)) := by
        rw [hbt p hlt]
        rcases Nat.eq_zero_or_pos p with h0 | h0
        · subst h0
          rw [show (((o + 0 : Nat) : Int) - 1) = ((o - 1 : Nat) : Int) by omega, h10]
          constructor
          · intro h; exact ⟨h.1, .inl rfl⟩
          · intro h; exact ⟨h.1, .inr rfl⟩
        · rw [show (((o + p : Nat) : Int) - 1) = ((o + (p - 1) : Nat) : Int) by omega, hbt (p - 1) (by omega), show ((p - 1 : Nat) : Int) = (p : Int) - 1 by omega]
          constructor
          · rintro ⟨h1, h2 | h2⟩
            · omega
            · exact ⟨h1, .inr h2⟩
          · rintro ⟨h1, h2 | h2⟩
            · omega
            · exact ⟨h1, .inr h2⟩
      by_cases hc : bt m (p : Int) = 37 ∧ ((p : Int) = 0 ∨ bt m ((p : Int) - 1) = 10)
      · rw [if_pos hc] at h
        rw [if_pos (hcc.2 hc)]
        obtain ⟨z, hz, h⟩ := Option.bind_eq_some_iff.1 h
        rw [hz, Option.bind_some]
        by_cases h0 : 0 ≤ z
        · rw [if_pos h0] at h ⊢
          by_cases h1 : 1 ≤ z ∧ (p : Int) + z ≤ m.size
          · rw [if_pos h1] at h
            rw [if_pos ⟨h1.1, by omega⟩]
            obtain ⟨zn, rfl⟩ : ∃ zn : Nat, z = (zn : Int) := ⟨z.toNat, (Int.toNat_of_nonneg h0).symm⟩
            have h2 := scan_shift S m hS o ho hd h10 hsz k (p + zn) t R (by omega) (by rw [show ((p + zn : Nat) : Int) = (p : Int) + (zn : Int) by omega]; exact h)
            rw [show ((o + p : Nat) : Int) + (zn : Int) = ((o + (p + zn) : Nat) : Int) by omega]
            exact h2
          · rw [if_neg h1] at h; cases h
        · rw [if_neg h0] at h ⊢
          obtain ⟨rfl, rfl⟩ := Prod.mk.inj (Option.some.inj h)
          rfl
      · rw [if_neg hc] at h
        rw [if_neg (fun x => hc (hcc.1 x))]
        obtain ⟨z, hz, h⟩ := Option.bind_eq_some_iff.1 h
        rw [hz, Option.bind_some]
        by_cases h0 : 0 < z.2.2
        · rw [if_pos h0] at h ⊢
          by_cases h1 : (p : Int) + z.2.2 ≤ m.size
          · rw [if_pos h1] at h
            rw [if_pos (by omega)]
            obtain ⟨e, he⟩ : ∃ e : Nat, z.2.2 = (e : Int) := ⟨z.2.2.toNat, (Int.toNat_of_nonneg (by omega)).symm⟩
            rw [he] at h h1 ⊢
            obtain ⟨⟨r1, r2⟩, hr, hxx⟩ := Option.map_eq_some_iff.1 h
            have h2 := scan_shift S m hS o ho hd h10 hsz k (p + e) r1 r2 (by omega) (by rw [show ((p + e : Nat) : Int) = (p : Int) + (e : Int) by omega]; exact hr)
            rw [show ((o + p : Nat) : Int) + (e : Int) = ((o + (p + e) : Nat) : Int) by omega, h2, Option.map_some]
            obtain ⟨rfl, rfl⟩ := Prod.mk.inj hxx
            rw [List.map_cons]
            congr 3
            unfold shT
            congr 1
            dsimp only
            omega
          · rw [if_neg h1] at h; cases h
        · rw [if_neg h0] at h ⊢
          obtain ⟨rfl, rfl⟩ := Prod.mk.inj (Option.some.inj h)
          rw [if_neg (by omega)]
          show some _ = some _
          rw [show ((o + p : Nat) : Int) = (p : Int) + (o : Int) by omega]
          rfl
/-- Pieces in a row, and what follows. -/
theorem scan_rowM (s : ByteArray) (hs : s.size ≤ 1099511627776) (rest : List UInt8) (t : List S31) (R : Int) : ∀ (P : List Pc) (i : Nat), (∀ p ∈ P, Good p) → i ≤ s.size → (D s).drop i = bytesR P ++ rest → (∃ k, scanN k s ((i + (bytesR P).length : Nat) : Int) = some (t, R)) →
    ∃ k, scanN k s (i : Int) = some (toksR P i ++ t, R)
  | [], i, _, hi, h, ⟨k, hk⟩ => ⟨k, hk⟩
  | p :: P, i, hP, hi, h, ⟨k, hk⟩ => by
    obtain ⟨⟨hg, _⟩, c, q, hc, hw, h37, ht⟩ := hP p (by simp)
    have h1 : (D s).drop i = c :: (q ++ (D (pGap p) ++ (bytesR P ++ rest))) := by
      rw [h]
      show (D (pSrc p) ++ D (pGap p)) ++ bytesR P ++ rest = _
      rw [hc]
      simp
    have hl := drop_len h1 hi
    simp only [List.length_cons, List.length_append] at hl
    have hbl : (bytesR (p :: P)).length = q.length + 1 + (D (pGap p)).length + (bytesR P).length := by
      show ((D (pSrc p) ++ D (pGap p)) ++ bytesR P).length = _
      rw [hc]
      simp only [List.length_cons, List.length_append]
    rw [hbl] at hk
    have he : (tokS c (q ++ (D (pGap p) ++ (bytesR P ++ rest)))).2.2 = ((q.length + 1 : Nat) : Int) := by rw [ht]
    have h2 : (D s).drop (i + (q.length + 1)) = D (pGap p) ++ (bytesR P ++ rest) := by
      have h3 : (D s).drop i = (c :: q) ++ (D (pGap p) ++ (bytesR P ++ rest)) := h1
      have h4 := drop_add h3
      rw [List.length_cons] at h4
      exact h4
    have h5 := drop_add h2
    obtain ⟨k1, hk1⟩ := scan_rowM s hs rest t R P (i + (q.length + 1) + (D (pGap p)).length) (fun x hx => hP x (by simp [hx])) (by omega) h5 ⟨k, by rw [← hk]; congr 1; omega⟩
    obtain ⟨k2, rfl⟩ : ∃ z, k1 = z + 1 := by
      cases k1 with
      | zero => simp [scanN] at hk1
      | succ z => exact ⟨z, rfl⟩
    obtain ⟨d, hd, hsk⟩ := fw_gap s hs 0 (i + (q.length + 1)) (by omega) _ _ h2 hg
    refine ⟨k2 + 1 + d + 1, ?_⟩
    rw [fw_tok s hs (k2 + 1 + d) i c _ h1 hw h37 (q.length + 1) he (by omega) (by omega), ht, hsk k2, hk1, Option.map_some, toksR, hc]
    simp only [List.length_append, List.length_cons, ← Nat.add_assoc, List.cons_append]
    rw [show i + q.length + (D (pGap p)).length + 1 = i + q.length + 1 + (D (pGap p)).length by omega]
theorem scanF_of (s : ByteArray) (hs : s.size ≤ 1099511627776) (t : List S31) (R : Int) (h : ∃ k, scanN k s 0 = some (t, R)) : scanF s = some (if 0 ≤ R then ([], R, 8) else (t, 0, 0)) := by
  obtain ⟨k, hk⟩ := h
  obtain ⟨t', R', h1, h2, _⟩ := scan_total s hs (s.size + 2) 0 (Nat.zero_le _) (by omega)
  obtain ⟨rfl, rfl⟩ := Prod.mk.inj (scan_det s 0 _ _ _ _ hk h1)
  have h3 : scanN (s.size + 2) s 0 = some (t, R) := h1
  unfold scanF
  rw [if_pos (by omega), h3, Option.bind_some, if_pos (by dsimp only; omega)]
  dsimp only
  split <;> rfl
/-- The law of strings that are joined. -/
theorem joins_law (P : List Pc) (hP : ∀ p ∈ P, 0 ≤ p.n) (m : ByteArray) (hm : m.size ≤ 500) (s : ByteArray) (hs : s = ⟨(textS (P.take 20)).1.toArray⟩) (L : Nat) (hL : s.size = L) :
    ∃ t R, (t.length ≤ 500 ∧ ∀ x ∈ t, 0 ≤ x.f2 ∧ x.f2 < 500) ∧ (R = -1 ∨ (0 ≤ R ∧ R < 500)) ∧ scanF m = some (if 0 ≤ R then ([], R, 8) else (t, 0, 0)) ∧
      scanF (s ++ ⟨#[10]⟩ ++ m) = some (if 0 ≤ R then ([], R + ((L + 1 : Nat) : Int), 8) else ((textS (P.take 20)).2 ++ t.map (shT (L + 1)), 0, 0)) := by
  obtain ⟨t, R, h1, h2, h3, h4⟩ := scan_total m (by omega) (m.size + 2) 0 (Nat.zero_le _) (by omega)
  have hl : (P.take 20).length ≤ 20 := by rw [List.length_take]; omega
  have hb := bytesR_len (P.take 20)
  have hg : ∀ p ∈ P.take 20, Good p := fun p hp => good_all p (hP p (List.mem_of_mem_take hp))
  obtain ⟨Q, hQ⟩ : ∃ Q, P.take 20 = Q := ⟨_, rfl⟩
  rw [hQ] at hl hb hg hs ⊢
  have hDs : D s = bytesR Q := by rw [hs, D_mk, textR]
  have hLs : (bytesR Q).length = L := by rw [← hDs, D_len, hL]
  obtain ⟨S, hS⟩ : ∃ S, s ++ ⟨#[10]⟩ ++ m = S := ⟨_, rfl⟩
  have hDS : D S = bytesR Q ++ ([10] ++ D m) := by rw [← hS, D_app, D_app, hDs, List.append_assoc]
  have hSs : S.size = L + 1 + m.size := by
    rw [← D_len, hDS, List.length_append, List.length_append, D_len, hLs]
    simp only [List.length_cons, List.length_nil]
    omega
  have hd0 : (D S).drop 0 = bytesR Q ++ ([10] ++ D m) := by rw [List.drop_zero, hDS]
  have hd1 := drop_add hd0
  rw [Nat.zero_add, hLs] at hd1
  have hd2 := drop_add hd1
  obtain ⟨g1, g2, _⟩ := bt_drop (show (D S).drop L = 10 :: D m from hd1)
  have h10 : bt S ((L + 1 - 1 : Nat) : Int) = 10 := by
    rw [Nat.add_sub_cancel, bt_nat S L g1, g2]; rfl
  have hsh := scan_shift S m (by omega) (L + 1) (by omega) hd2 h10 (by omega) (m.size + 2) 0 t R (Nat.zero_le _) h1
  have hsh2 := (fw_ws S (by omega) (m.size + 1) L (by omega) [10] (D m) hd1 (by decide)).trans hsh
  have hrow := scan_rowM S (by omega) ([10] ++ D m) _ _ Q 0 hg (Nat.zero_le _) hd0 ⟨m.size + 2, by rw [Nat.zero_add, hLs]; exact hsh2⟩
  have hF := scanF_of S (by omega) _ _ hrow
  refine ⟨t, R, ⟨by omega, fun x hx => ⟨(h4 x hx).1, by have := (h4 x hx).2; omega⟩⟩, h3.imp id (fun h => ⟨by omega, by omega⟩), scanF_of m (by omega) t R ⟨_, h1⟩, ?_⟩
  rw [hS, hF, textR]
  rcases h3 with rfl | ⟨h3, h5⟩
  · rfl
  · have h0 : 0 ≤ R := h3
    rw [if_neg (show ¬ R < 0 by omega), if_pos h0, if_pos (by omega)]
end Go.Proofs.YtlpoglkddknedaaGreatDoor.P

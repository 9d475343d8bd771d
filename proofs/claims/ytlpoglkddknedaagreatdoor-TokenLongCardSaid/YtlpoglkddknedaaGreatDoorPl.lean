/- The plain law of long tokens: what the scanner answers where one more token, or a wrong one, stands behind pieces. No program's walk in sight. -/
import Derived.Test.YtlpoglkddknedaaGreatDoorPj
import Derived.Lib.Repeat
namespace Go.Proofs.YtlpoglkddknedaaGreatDoor.P
open Go.RowKit Go.Proofs.YtlpoglkddknedaaGreatDoor.T Go.Proofs.YtlpoglkddknedaaGreatDoor.H Go.Proofs.YtlpoglkddknedaaGreatDoor.R Go.Proofs.YtlpoglkddknedaaGreatDoorW.PrintWords Go.Proofs.YtlpoglkddknedaaGreatDoorW.PrintLast
set_option linter.unusedVariables false
set_option linter.unusedSimpArgs false
/-- Copies, as a string. -/
def rep (l : List UInt8) (k : Nat) : ByteArray := ⟨(Lib.repeatL l k).toArray⟩
theorem D_rep (l : List UInt8) (k : Nat) : D (rep l k) = Lib.repeatL l k := D_mk _
theorem rep_size (l : List UInt8) (k : Nat) : (rep l k).size = k * l.length := by rw [← D_len, D_rep, Lib.repeatL_length]
theorem rep_all (p : UInt8 → Bool) (l : List UInt8) (h : l.all p = true) : ∀ k, (Lib.repeatL l k).all p = true
  | 0 => rfl
  | k + 1 => by rw [Lib.repeatL, List.all_append, h, rep_all p l h k]; rfl
/-- One more token (kd not 0), or a wrong one (kd = 0). -/
def LongOk (bad : ByteArray) (kd : Int) (tx : ByteArray) : Prop :=
  bad.size ≤ 2000 ∧ token_Is.f bad = some (decide (kd = 2)) ∧ ∃ c q, D bad = c :: q ∧ inS WS c = false ∧ c.toNat ≠ 37 ∧ ((kd ≠ 0 ∧ tokS c q = (kd, tx, ((q.length + 1 : Nat) : Int))) ∨ (kd = 0 ∧ (tokS c q).2.2 = 0))
theorem is_not (b : ByteArray) (hs : b.size ≤ 1099511627776) (c : UInt8) (q : List UInt8) (hD : D b = c :: q) (h : inS AN c = false) : token_Is.f b = some false := by
  rcases isF_eq b hs with ⟨⟨h0, hA, _⟩, _⟩ | ⟨_, h2⟩
  · have h1 := D_cons b h0
    rw [hD] at h1
    injection h1 with h3 _
    rw [← h3, h] at hA
    cases hA
  · exact h2
theorem spn_full (f : UInt8 → Bool) (l : List UInt8) (h : l.all f = true) : spnL f l = l.length := by
  have := spnL_app f l [] h
  rw [List.append_nil] at this
  rw [this]; rfl
theorem long0 (k : Nat) (hk : k < 600) : LongOk (⟨#[97]⟩ ++ rep [45] k) (if 254 < k then 0 else 2) (⟨#[97]⟩ ++ rep [45] k) := by
  obtain ⟨b, hb⟩ : ∃ b, (⟨#[97]⟩ : ByteArray) ++ rep [45] k = b := ⟨_, rfl⟩
  have hD : D b = 97 :: Lib.repeatL [45] k := by rw [← hb, D_app, D_rep]; rfl
  have hsz : b.size = k + 1 := by rw [← D_len, hD, List.length_cons, Lib.repeatL_length]; simp
  rw [hb]
  have hq : (Lib.repeatL [45] k).length = k := by rw [Lib.repeatL_length]; simp
  have hall : (97 :: Lib.repeatL [45] k).all (inS SY) = true := by rw [List.all_cons, rep_all (inS SY) [45] (by decide) k]; decide
  have hsp : spnL (inS SY) (97 :: Lib.repeatL [45] k) = k + 1 := by rw [spn_full _ _ hall, List.length_cons, hq]
  have h97 : inS AN 97 = true := by decide
  have hT : tokS 97 (Lib.repeatL [45] k) = if k + 1 ≤ 255 then (2, b, ((k + 1 : Nat) : Int)) else P.bad := by
    unfold tokS
    rw [if_pos h97, hsp]
    have : (⟨((97 :: Lib.repeatL [45] k).take (k + 1)).toArray⟩ : ByteArray) = b := by
      rw [List.take_of_length_le (by rw [List.length_cons, hq]; exact Nat.le_refl _), ← hD, mk_D]
    rw [this]
  refine ⟨by omega, ?_, 97, _, hD, by decide, by decide, ?_⟩
  · rcases isF_eq b (by omega) with ⟨⟨h0, _, _, h255⟩, h2⟩ | ⟨h1, h2⟩
    · rw [h2, if_neg (by omega)]; rfl
    · by_cases h : 254 < k
      · rw [h2, if_pos h]; rfl
      · exact absurd ⟨by omega, by
          have h1 := D_cons b (by omega)
          rw [hD] at h1
          injection h1 with h3 _
          rw [← h3]; exact h97, by rw [hD, hsp, hsz], by omega⟩ h1
  · by_cases h : 254 < k
    · right
      rw [if_pos h, hT, if_neg (by omega)]
      exact ⟨rfl, rfl⟩
    · left
      rw [if_neg h, hT, if_pos (by omega), hq]
      exact ⟨by decide, rfl⟩
theorem textL_bs : ∀ (k i : Nat) (acc : List UInt8), textL (Lib.repeatL [92, 92] k ++ [34]) i acc = if 255 < acc.length + k then (⟨#[]⟩, 0) else (⟨(acc ++ Lib.repeatL [92] k).toArray⟩, (i : Int) + 2 * (k : Int) + 2)
  | 0, i, acc => by
    show textL [34] i acc = _
    rw [textL_cons, if_neg (by decide), if_pos (by decide), Nat.add_zero]
    split
    · rfl
    · simp [Lib.repeatL]
  | k + 1, i, acc => by
    show textL (92 :: 92 :: (Lib.repeatL [92, 92] k ++ [34])) i acc = _
    rw [textL_cons, if_neg (by decide), if_neg (by decide), if_pos (by decide)]
    dsimp only
    rw [if_pos (by decide), textL_bs k (i + 2) (acc ++ [92]), List.length_append, List.length_cons, List.length_nil]
    by_cases h : 255 < acc.length + (k + 1)
    · rw [if_pos (by omega), if_pos h]
    · rw [if_neg (by omega), if_neg h]
      have e : acc ++ [92] ++ Lib.repeatL [92] k = acc ++ Lib.repeatL [92] (k + 1) := by simp [Lib.repeatL]
      rw [e]
      congr 1
      omega
theorem long1 (k : Nat) (hk : k < 600) : LongOk (⟨#[34]⟩ ++ rep [92, 92] k ++ ⟨#[34]⟩) (if 255 < k then 0 else 1) (rep [92] k) := by
  obtain ⟨b, hb⟩ : ∃ b, (⟨#[34]⟩ : ByteArray) ++ rep [92, 92] k ++ ⟨#[34]⟩ = b := ⟨_, rfl⟩
  have hD : D b = 34 :: (Lib.repeatL [92, 92] k ++ [34]) := by rw [← hb, D_app, D_app, D_rep]; rfl
  have hsz : b.size = 2 * k + 2 := by rw [← D_len, hD, List.length_cons, List.length_append, Lib.repeatL_length]; simp; omega
  have hq : (Lib.repeatL [92, 92] k ++ [34]).length = 2 * k + 1 := by rw [List.length_append, Lib.repeatL_length]; simp; omega
  rw [hb]
  have hT : tokS 34 (Lib.repeatL [92, 92] k ++ [34]) = (1, (textL (Lib.repeatL [92, 92] k ++ [34]) 0 []).1, (textL (Lib.repeatL [92, 92] k ++ [34]) 0 []).2) := by
    unfold tokS; rw [if_neg (by decide), if_neg (by decide), if_neg (by decide), if_pos (by decide)]
  have htx := textL_bs k 0 []
  simp only [List.length_nil, Nat.zero_add, List.nil_append] at htx
  refine ⟨by omega, ?_, 34, _, hD, by decide, by decide, ?_⟩
  · rw [is_not b (by omega) 34 _ hD (by decide)]
    split <;> rfl
  · rw [hT, htx, hq]
    by_cases h : 255 < k
    · right
      rw [if_pos h, if_pos h]
      exact ⟨rfl, rfl⟩
    · left
      rw [if_neg h, if_neg h]
      refine ⟨by decide, ?_⟩
      show (1, rep [92] k, _) = _
      congr 2
      omega
theorem long2 (k : Nat) (hk : k < 600) : LongOk (⟨#[36]⟩ ++ rep [55] k) (if k < 1 ∨ 3 < k then 0 else 9) (rep [55] k) := by
  obtain ⟨b, hb⟩ : ∃ b, (⟨#[36]⟩ : ByteArray) ++ rep [55] k = b := ⟨_, rfl⟩
  have hD : D b = 36 :: Lib.repeatL [55] k := by rw [← hb, D_app, D_rep]; rfl
  have hq : (Lib.repeatL [55] k).length = k := by rw [Lib.repeatL_length]; simp
  have hsz : b.size = k + 1 := by rw [← D_len, hD, List.length_cons, hq]
  rw [hb]
  have hsp : spnL (inS DG) (Lib.repeatL [55] k) = k := by rw [spn_full _ _ (rep_all (inS DG) [55] (by decide) k), hq]
  have hT : tokS 36 (Lib.repeatL [55] k) = if 1 ≤ k ∧ k ≤ 3 then (9, rep [55] k, (k : Int) + 1) else P.bad := by
    unfold tokS
    rw [if_neg (by decide), if_neg (by decide), if_neg (by decide), if_neg (by decide), if_pos (by decide), hsp, List.take_of_length_le (by rw [hq]; exact Nat.le_refl _)]
    rfl
  refine ⟨by omega, ?_, 36, _, hD, by decide, by decide, ?_⟩
  · rw [is_not b (by omega) 36 _ hD (by decide)]
    split <;> rfl
  · rw [hT, hq]
    by_cases h : k < 1 ∨ 3 < k
    · right
      rw [if_pos h, if_neg (by omega)]
      exact ⟨rfl, rfl⟩
    · left
      rw [if_neg h, if_pos (by omega)]
      exact ⟨by decide, rfl⟩
theorem long3 (k : Nat) (hk : k < 600) (tx : ByteArray) : LongOk (⟨#[123]⟩ ++ rep [40] k) 0 tx := by
  obtain ⟨b, hb⟩ : ∃ b, (⟨#[123]⟩ : ByteArray) ++ rep [40] k = b := ⟨_, rfl⟩
  have hD : D b = 123 :: Lib.repeatL [40] k := by rw [← hb, D_app, D_rep]; rfl
  have hq : (Lib.repeatL [40] k).length = k := by rw [Lib.repeatL_length]; simp
  have hsz : b.size = k + 1 := by rw [← D_len, hD, List.length_cons, hq]
  rw [hb]
  have hsp : spnL (· != 125) (Lib.repeatL [40] k) = k := by rw [spn_full _ _ (rep_all (· != 125) [40] (by decide) k), hq]
  refine ⟨by omega, is_not b (by omega) 123 _ hD (by decide), 123, _, hD, by decide, by decide, .inr ⟨rfl, ?_⟩⟩
  unfold tokS
  rw [if_neg (by decide), if_neg (by decide), if_neg (by decide), if_neg (by decide), if_neg (by decide), if_pos (by decide), hsp, hq, if_neg (Nat.lt_irrefl _)]
  rfl
theorem textL_open : ∀ (k i : Nat) (acc : List UInt8), textL (Lib.repeatL [40] k) i acc = (⟨#[]⟩, 0)
  | 0, i, acc => by
    show textL [] i acc = _
    rw [textL.eq_def]
  | k + 1, i, acc => by
    show textL (40 :: Lib.repeatL [40] k) i acc = _
    rw [textL_cons, if_neg (by decide), if_neg (by decide), if_neg (by decide), textL_open k]
theorem long4 (k : Nat) (hk : k < 600) (tx : ByteArray) : LongOk (⟨#[34]⟩ ++ rep [40] k) 0 tx := by
  obtain ⟨b, hb⟩ : ∃ b, (⟨#[34]⟩ : ByteArray) ++ rep [40] k = b := ⟨_, rfl⟩
  have hD : D b = 34 :: Lib.repeatL [40] k := by rw [← hb, D_app, D_rep]; rfl
  have hq : (Lib.repeatL [40] k).length = k := by rw [Lib.repeatL_length]; simp
  have hsz : b.size = k + 1 := by rw [← D_len, hD, List.length_cons, hq]
  rw [hb]
  refine ⟨by omega, is_not b (by omega) 34 _ hD (by decide), 34, _, hD, by decide, by decide, .inr ⟨rfl, ?_⟩⟩
  unfold tokS
  rw [if_neg (by decide), if_neg (by decide), if_neg (by decide), if_pos (by decide), textL_open]
def wrongs : List ByteArray := [⟨#[43]⟩, ⟨#[35]⟩, ⟨#[61]⟩, ⟨#[58]⟩, ⟨#[45]⟩, ⟨#[47]⟩, ⟨#[95]⟩, ⟨#[125]⟩, ⟨#[0]⟩, ⟨#[127]⟩, ⟨#[233]⟩, ⟨#[126]⟩, ⟨#[64]⟩, ⟨#[94]⟩, ⟨#[38]⟩, ⟨#[39]⟩, ⟨#[96]⟩, ⟨#[44]⟩, ⟨#[60]⟩, ⟨#[62]⟩, ⟨#[124]⟩, ⟨#[11]⟩, ⟨#[12]⟩]
def wrongB (b : ByteArray) : Bool := match D b with | [c] => !(inS WS c) && (c.toNat != 37 && (!(inS AN c) && decide ((tokS c []).2.2 = 0))) | _ => false
theorem wrong23 : ∀ i : Fin 23, wrongB (wrongs.getD i.val ⟨#[]⟩) = true := by decide +kernel
theorem long5 (k : Nat) (tx : ByteArray) : LongOk (wrongs.getD (k % 23) ⟨#[]⟩) 0 tx := by
  have h := wrong23 ⟨k % 23, Nat.mod_lt _ (by decide)⟩
  dsimp only at h
  obtain ⟨b, hb⟩ : ∃ b, wrongs.getD (k % 23) ⟨#[]⟩ = b := ⟨_, rfl⟩
  rw [hb] at h ⊢
  unfold wrongB at h
  split at h
  · rename_i c hD
    simp only [Bool.and_eq_true, Bool.not_eq_true', bne_iff_ne, decide_eq_true_eq] at h
    obtain ⟨h1, h2, h3, h4⟩ := h
    have hsz : b.size = 1 := by rw [← D_len, hD]; rfl
    exact ⟨by omega, is_not b (by omega) c _ hD h3, c, [], hD, h1, h2, .inr ⟨rfl, h4⟩⟩
  · cases h
theorem long6 (k : Nat) (hk : k < 600) : LongOk (⟨#[59]⟩ ++ rep [125, 123] k) 10 (rep [125, 123] k) := by
  obtain ⟨b, hb⟩ : ∃ b, (⟨#[59]⟩ : ByteArray) ++ rep [125, 123] k = b := ⟨_, rfl⟩
  have hD : D b = 59 :: Lib.repeatL [125, 123] k := by rw [← hb, D_app, D_rep]; rfl
  have hq : (Lib.repeatL [125, 123] k).length = 2 * k := by rw [Lib.repeatL_length]; simp; omega
  have hsz : b.size = 2 * k + 1 := by rw [← D_len, hD, List.length_cons, hq]
  rw [hb]
  have hsp : spnL (· != 10) (Lib.repeatL [125, 123] k) = 2 * k := by rw [spn_full _ _ (rep_all (· != 10) [125, 123] (by decide) k), hq]
  refine ⟨by omega, is_not b (by omega) 59 _ hD (by decide), 59, _, hD, by decide, by decide, .inl ⟨by decide, ?_⟩⟩
  unfold tokS
  rw [if_neg (by decide), if_neg (by decide), if_neg (by decide), if_neg (by decide), if_neg (by decide), if_neg (by decide), if_pos (by decide), hsp, hq, List.take_of_length_le (by rw [hq]; exact Nat.le_refl _)]
  rfl
theorem body_bad (s : ByteArray) (hs : s.size ≤ 1099511627776) (k i : Nat) (c : UInt8) (q : List UInt8) (h : (D s).drop i = c :: q) (hw : inS WS c = false) (h37 : c.toNat ≠ 37) (he : (tokS c q).2.2 = 0) : scanN (k + 1) s (i : Int) = some ([], (i : Int)) := by
  obtain ⟨hlt, hc, hq⟩ := bt_drop h
  rw [scan_at s hs k i 0 i (by omega) (by rw [h, spnL_cons, if_neg (by rw [hw]; decide)]) rfl]
  unfold bodyN
  rw [if_neg (by omega), if_neg (fun hx => by
    have h1 := hx.1
    rw [bt_nat s i hlt, hc] at h1
    omega)]
  have hx : s.extract (i : Int).toNat s.size = s.extract i s.size := by rw [Int.toNat_natCast]
  have hxs : (s.extract i s.size).size = s.size - i := by rw [ByteArray.size_extract]; omega
  have h4 := ext_all s i
  rw [h] at h4
  have h0' : (s.extract i s.size)[0]'(by omega) = c := by
    have h3 : (D (s.extract i s.size))[0]'(by rw [D_len]; omega) = c := by simp only [h4, List.getElem_cons_zero]
    exact h3
  have h1 : (D (s.extract i s.size)).drop 1 = q := by rw [h4]; rfl
  have hone := one_eq (s.extract i s.size) (by omega) (by omega)
  rw [h0', h1] at hone
  rw [hx, hone, Option.bind_some, he, if_neg (Int.lt_irrefl 0)]
/-- The law of long tokens, and of wrong ones. -/
theorem long_law (P : List Pc) (hP : ∀ p ∈ P, 0 ≤ p.n) (s : ByteArray) (hs : s = ⟨(textS (P.take 20)).1.toArray⟩) (L : Nat) (hL : s.size = L) (b : ByteArray) (kd : Int) (tx : ByteArray) (hb : LongOk b kd tx) :
    scanF (s ++ b) = some (if kd = 0 then ([], (L : Int), 8) else ((textS (P.take 20)).2 ++ [⟨kd, tx, (L : Int)⟩], 0, 0)) := by
  obtain ⟨hbs, _, c, q, hD, hw, h37, hT⟩ := hb
  have hl : (P.take 20).length ≤ 20 := by rw [List.length_take]; omega
  have hbl := bytesR_len (P.take 20)
  have hg : ∀ p ∈ P.take 20, Good p := fun p hp => good_all p (hP p (List.mem_of_mem_take hp))
  obtain ⟨Q, hQ⟩ : ∃ Q, P.take 20 = Q := ⟨_, rfl⟩
  rw [hQ] at hl hbl hg hs ⊢
  have hDs : D s = bytesR Q := by rw [hs, D_mk, textR]
  have hLs : (bytesR Q).length = L := by rw [← hDs, D_len, hL]
  obtain ⟨S, hS⟩ : ∃ S, s ++ b = S := ⟨_, rfl⟩
  have hDS : D S = bytesR Q ++ D b := by rw [← hS, D_app, hDs]
  have hSs : S.size = L + b.size := by rw [← D_len, hDS, List.length_append, D_len, hLs]
  have hd0 : (D S).drop 0 = bytesR Q ++ D b := by rw [List.drop_zero, hDS]
  have hd1 := drop_add hd0
  rw [Nat.zero_add, hLs, hD] at hd1
  have hbq : b.size = q.length + 1 := by rw [← D_len, hD, List.length_cons]
  rw [hS, textR]
  rcases hT with ⟨hk, hT⟩ | ⟨hk, hT⟩
  · have h1 := fw_tok S (by omega) 1 L c q hd1 hw h37 (q.length + 1) (by rw [hT]) (by omega) (by omega)
    rw [show L + (q.length + 1) = S.size by omega, fw_end S (by omega) 0, hT] at h1
    have hrow := scan_rowM S (by omega) (D b) _ _ Q 0 hg (Nat.zero_le _) hd0 ⟨2, by rw [Nat.zero_add, hLs]; exact h1⟩
    have hF := scanF_of S (by omega) _ _ hrow
    rw [hF, if_neg hk]
    rfl
  · have h1 := body_bad S (by omega) 0 L c q hd1 hw h37 hT
    have hrow := scan_rowM S (by omega) (D b) _ _ Q 0 hg (Nat.zero_le _) hd0 ⟨1, by rw [Nat.zero_add, hLs]; exact h1⟩
    have hF := scanF_of S (by omega) _ _ hrow
    rw [hF, if_pos hk, if_pos (by omega)]
end Go.Proofs.YtlpoglkddknedaaGreatDoor.P

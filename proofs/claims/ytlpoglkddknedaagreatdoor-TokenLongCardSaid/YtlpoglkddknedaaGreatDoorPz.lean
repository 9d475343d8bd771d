/- The plain law of tokens that were written: what scanN answers at a string of pieces. No program's walk in sight. · The plain law of tokens that were written, on: the white space behind a piece, pieces in a row. No program's walk in sight. · The plain law of tokens that were written: each kind of piece is good. No program's walk in sight. · The plain law of tokens that were written: glyphs, comments, strings are good, if their texts are. No program's walk in sight. · The plain law of tokens that were written: whatever piece is good; how long its text is. No program's walk in sight. -/
import Derived.Test.YtlpoglkddknedaaGreatDoorPe
import Derived.Test.YtlpoglkddknedaaGreatDoorTz
import Derived.Test.YtlpoglkddknedaaGreatDoorHy
import Derived.Lib.SplitLaws
namespace Go.Proofs.YtlpoglkddknedaaGreatDoor.P
open Go.RowKit Go.Proofs.YtlpoglkddknedaaGreatDoor.T Go.Proofs.YtlpoglkddknedaaGreatDoor.H Go.Proofs.YtlpoglkddknedaaGreatDoor.R Go.Proofs.YtlpoglkddknedaaGreatDoorW.PrintWords Go.Proofs.YtlpoglkddknedaaGreatDoorW.PrintLast
set_option linter.unusedVariables false
set_option linter.unusedSimpArgs false
/-- What scanN does at the place behind the white space. -/
def bodyN (k : Nat) (s : ByteArray) (p : Int) : Option (List S31 × Int) :=
  if p = s.size then some ([], -1)
  else if bt s p = 37 ∧ (p = 0 ∨ bt s (p - 1) = 10) then
    (strings_IndexByte.f (s.extract p.toNat s.size) 10).bind fun m => if 0 ≤ m then (if 1 ≤ m ∧ p + m ≤ s.size then scanN k s (p + m) else none) else some ([], -1)
  else (token_one.f (s.extract p.toNat s.size)).bind fun t => if 0 < t.2.2 then (if p + t.2.2 ≤ s.size then (scanN k s (p + t.2.2)).map fun x => (⟨t.1, t.2.1, p⟩ :: x.1, x.2) else none) else some ([], p)
theorem scan_at (s : ByteArray) (hs : s.size ≤ 1099511627776) (k i m p : Nat) (hi : i ≤ s.size) (hm : spnL (inS WS) ((D s).drop i) = m) (hp : i + m = p) : scanN (k + 1) s (i : Int) = bodyN k s (p : Int) := by
  have hle := spnL_le (inS WS) ((D s).drop i)
  rw [List.length_drop, D_len, hm] at hle
  have hrun : token_run.f (s.extract (i : Int).toNat s.size) (⟨#[32, 9, 13, 10]⟩ : ByteArray) = some (m : Int) := by
    rw [Int.toNat_natCast, show (⟨#[32, 9, 13, 10]⟩ : ByteArray) = WS from rfl, run_eq _ WS (by rw [ByteArray.size_extract]; omega) (by decide) ascii_WS, ext_all, hm]
  have hpi : (i : Int) + (m : Int) = (p : Int) := by omega
  rw [scanN, hrun, Option.bind_some, hpi, if_pos ⟨by omega, by omega⟩]
  rfl
theorem spnL_app (f : UInt8 → Bool) : ∀ (g r : List UInt8), g.all f = true → spnL f (g ++ r) = g.length + spnL f r
  | [], r, _ => by simp
  | c :: g, r, h => by
    rw [List.all_cons, Bool.and_eq_true] at h
    rw [List.cons_append, spnL_cons, if_pos h.1, spnL_app f g r h.2, List.length_cons]
    omega
theorem spnL_exact (f : UInt8 → Bool) (g : List UInt8) (c : UInt8) (r : List UInt8) (h : g.all f = true) (hc : f c = false) : spnL f (g ++ c :: r) = g.length := by
  rw [spnL_app f g _ h, spnL_cons, if_neg (by rw [hc]; decide)]
  rfl
theorem drop_len {s : ByteArray} {i : Nat} {q : List UInt8} (h : (D s).drop i = q) (hi : i ≤ s.size) : q.length + i = s.size := by
  rw [← h, List.length_drop, D_len]; omega
theorem drop_add {s : ByteArray} {i : Nat} {a b : List UInt8} (h : (D s).drop i = a ++ b) : (D s).drop (i + a.length) = b := by
  rw [← List.drop_drop, h, List.drop_left]
/-- White space is passed over. -/
theorem fw_ws (s : ByteArray) (hs : s.size ≤ 1099511627776) (k i : Nat) (hi : i ≤ s.size) (g r : List UInt8) (h : (D s).drop i = g ++ r) (hg : g.all (inS WS) = true) : scanN (k + 1) s (i : Int) = scanN (k + 1) s ((i + g.length : Nat) : Int) := by
  have hl := drop_len h hi
  rw [List.length_append] at hl
  have h1 : spnL (inS WS) ((D s).drop i) = g.length + spnL (inS WS) r := by rw [h, spnL_app _ _ _ hg]
  have h2 : spnL (inS WS) ((D s).drop (i + g.length)) = spnL (inS WS) r := by rw [drop_add h]
  rw [scan_at s hs k i _ _ hi h1 rfl, scan_at s hs k (i + g.length) _ (i + (g.length + spnL (inS WS) r)) (by omega) h2 (by omega)]
theorem bt_drop {s : ByteArray} {i : Nat} {c : UInt8} {r : List UInt8} (h : (D s).drop i = c :: r) : ∃ hi : i < s.size, s[i] = c ∧ (D s).drop (i + 1) = r := by
  have hi : i < s.size := by
    rcases Nat.lt_or_ge i s.size with hi | hi
    · exact hi
    · rw [List.drop_eq_nil_of_le (by rw [D_len]; exact hi)] at h; cases h
  have h1 := drop_cons s i hi
  rw [show s.data.toList = D s from rfl, h] at h1
  injection h1 with h2 h3
  exact ⟨hi, h2.symm, h3.symm⟩
theorem body_tok (s : ByteArray) (hs : s.size ≤ 1099511627776) (k p : Nat) (c : UInt8) (q : List UInt8) (h : (D s).drop p = c :: q) (h37 : c.toNat ≠ 37) (e : Nat) (he : (tokS c q).2.2 = (e : Int)) (h0 : 0 < e) (hle : p + e ≤ s.size) :
    bodyN k s (p : Int) = (scanN k s ((p + e : Nat) : Int)).map fun x => (⟨(tokS c q).1, (tokS c q).2.1, (p : Int)⟩ :: x.1, x.2) := by
  obtain ⟨hlt, hc, hq⟩ := bt_drop h
  unfold bodyN
  rw [if_neg (by omega), if_neg (fun hx => by
    have h1 := hx.1
    rw [bt_nat s p hlt, hc] at h1
    omega)]
  have hx : s.extract (p : Int).toNat s.size = s.extract p s.size := by rw [Int.toNat_natCast]
  have hxs : (s.extract p s.size).size = s.size - p := by rw [ByteArray.size_extract]; omega
  have h4 := ext_all s p
  rw [h] at h4
  have h0' : (s.extract p s.size)[0]'(by omega) = c := by
    have h3 : (D (s.extract p s.size))[0]'(by rw [D_len]; omega) = c := by simp only [h4, List.getElem_cons_zero]
    exact h3
  have h1 : (D (s.extract p s.size)).drop 1 = q := by rw [h4]; rfl
  have hone := one_eq (s.extract p s.size) (by omega) (by omega)
  rw [h0', h1] at hone
  rw [hx, hone, Option.bind_some, he, if_pos (by omega), if_pos (by omega)]
  rw [show ((p + e : Nat) : Int) = (p : Int) + (e : Int) by omega]
/-- One token is read. -/
theorem fw_tok (s : ByteArray) (hs : s.size ≤ 1099511627776) (k i : Nat) (c : UInt8) (q : List UInt8) (h : (D s).drop i = c :: q) (hw : inS WS c = false) (h37 : c.toNat ≠ 37) (e : Nat) (he : (tokS c q).2.2 = (e : Int)) (h0 : 0 < e) (hle : i + e ≤ s.size) :
    scanN (k + 1) s (i : Int) = (scanN k s ((i + e : Nat) : Int)).map fun x => (⟨(tokS c q).1, (tokS c q).2.1, (i : Int)⟩ :: x.1, x.2) := by
  have hlt := (bt_drop h).1
  rw [scan_at s hs k i 0 i (by omega) (by rw [h, spnL_cons, if_neg (by rw [hw]; decide)]) rfl]
  exact body_tok s hs k i c q h h37 e he h0 hle
theorem fw_end (s : ByteArray) (hs : s.size ≤ 1099511627776) (k : Nat) : scanN (k + 1) s (s.size : Int) = some ([], -1) := by
  rw [scan_at s hs k s.size 0 s.size (Nat.le_refl _) (by rw [List.drop_eq_nil_of_le (by rw [D_len]; exact Nat.le_refl _)]; rfl) rfl]
  unfold bodyN
  rw [if_pos rfl]
end Go.Proofs.YtlpoglkddknedaaGreatDoor.P

namespace Go.Proofs.YtlpoglkddknedaaGreatDoor.P
open Go.RowKit Go.Proofs.YtlpoglkddknedaaGreatDoor.T Go.Proofs.YtlpoglkddknedaaGreatDoor.H Go.Proofs.YtlpoglkddknedaaGreatDoor.R Go.Proofs.YtlpoglkddknedaaGreatDoorW.PrintWords Go.Proofs.YtlpoglkddknedaaGreatDoorW.PrintLast
set_option linter.unusedVariables false
set_option linter.unusedSimpArgs false
def pass15 : List UInt8 := [37, 112, 97, 115, 115, 101, 100, 32, 111, 118, 101, 114, 32, 34, 40]
def pctGap : List UInt8 := 10 :: (pass15 ++ [10])
theorem idx_first : ∀ (g : List UInt8) (c : UInt8) (r : List UInt8), (g.all fun b => b != c) = true → Lib.indexByte (g ++ c :: r) c = (g.length : Int) := by
  intro g c r h
  rw [idx_eq]
  have h1 : spnL (· != c) (g ++ c :: r) = g.length := spnL_exact _ g c r h (by simp)
  rw [h1, if_pos (by simp)]
/-- The line that is passed over. -/
theorem fw_pct (s : ByteArray) (hs : s.size ≤ 1099511627776) (k i : Nat) (hi : i ≤ s.size) (r : List UInt8) (h : (D s).drop i = pctGap ++ r) : scanN (k + 2) s (i : Int) = scanN (k + 1) s ((i + pctGap.length : Nat) : Int) := by
  have hl := drop_len h hi
  have h16 : pctGap.length = 17 := rfl
  rw [List.length_append, h16] at hl
  have h1 : (D s).drop i = 10 :: (pass15 ++ 10 :: r) := by rw [h]; simp [pctGap]
  obtain ⟨hi0, hc0, hq0⟩ := bt_drop h1
  have h2 : (D s).drop (i + 1) = 37 :: (pass15.drop 1 ++ 10 :: r) := hq0
  obtain ⟨hi1, hc1, hq1⟩ := bt_drop h2
  have hm : spnL (inS WS) ((D s).drop i) = 1 := by
    rw [h1, spnL_cons, if_pos (by decide)]
    show spnL (inS WS) (37 :: (pass15.drop 1 ++ 10 :: r)) + 1 = 1
    rw [spnL_cons, if_neg (by decide)]
  rw [scan_at s hs (k + 1) i 1 (i + 1) hi hm rfl]
  unfold bodyN
  rw [if_neg (by omega), if_pos ⟨by rw [bt_nat s (i + 1) hi1, hc1]; rfl, .inr (by
    rw [show ((i + 1 : Nat) : Int) - 1 = (i : Int) by omega, bt_nat s i hi0, hc0]; rfl)⟩]
  have hx : (s.extract ((i + 1 : Nat) : Int).toNat s.size).data.toList = pass15 ++ 10 :: r := by
    rw [Int.toNat_natCast]
    have h3 := ext_all s (i + 1)
    rw [hq0] at h3
    exact h3
  have hidx : strings_IndexByte.f (s.extract ((i + 1 : Nat) : Int).toNat s.size) 10 = some (15 : Int) := by
    unfold strings_IndexByte.f
    rw [hx, show (Int.toNat 10).toUInt8 = (10 : UInt8) from rfl, idx_first pass15 10 r (by decide)]
    rfl
  rw [hidx, Option.bind_some, if_pos (by decide), if_pos ⟨by decide, by omega⟩]
  have h4 : (D s).drop (i + 16) = [10] ++ r := by
    have h5 : (D s).drop (i + 1) = pass15 ++ ([10] ++ r) := hq0
    have h6 := drop_add h5
    rw [show i + 1 + pass15.length = i + 16 from rfl] at h6
    exact h6
  rw [show ((i + 1 : Nat) : Int) + 15 = ((i + 16 : Nat) : Int) by omega, fw_ws s hs k (i + 16) (by omega) [10] r h4 (by decide), h16]
  rfl
/-- What may stand behind a piece. -/
def GapOk (g : List UInt8) : Prop := g.all (inS WS) = true ∨ g = pctGap
theorem fw_gap (s : ByteArray) (hs : s.size ≤ 1099511627776) (k i : Nat) (hi : i ≤ s.size) (g r : List UInt8) (h : (D s).drop i = g ++ r) (hg : GapOk g) : ∃ d, d ≤ 1 ∧ ∀ k, scanN (k + 1 + d) s (i : Int) = scanN (k + 1) s ((i + g.length : Nat) : Int) := by
  rcases hg with hg | rfl
  · exact ⟨0, by omega, fun k => fw_ws s hs k i hi g r h hg⟩
  · exact ⟨1, by omega, fun k => fw_pct s hs k i hi r h⟩
/-- A piece that is scanned as its token, whatever follows. -/
def Good (p : Pc) : Prop := (GapOk (D (pGap p)) ∧ 0 < (D (pGap p)).length) ∧ ∃ c q, D (pSrc p) = c :: q ∧ inS WS c = false ∧ c.toNat ≠ 37 ∧ ∀ r, tokS c (q ++ (D (pGap p) ++ r)) = (1 + p.kd % 11, pText p, ((q.length + 1 : Nat) : Int))
def bytesR (P : List Pc) : List UInt8 := P.flatMap fun p => D (pSrc p) ++ D (pGap p)
def toksR : List Pc → Nat → List S31
  | [], _ => []
  | p :: P, i => ⟨1 + p.kd % 11, pText p, (i : Int)⟩ :: toksR P (i + (D (pSrc p) ++ D (pGap p)).length)
theorem foldR : ∀ (P : List Pc) (b : List UInt8) (t : List S31), P.foldl R.stepT (b, t) = (b ++ bytesR P, t ++ toksR P b.length)
  | [], b, t => by simp [bytesR, toksR]
  | p :: P, b, t => by
    rw [List.foldl_cons]
    have e : R.stepT (b, t) p = (b ++ (D (pSrc p) ++ D (pGap p)), t ++ [⟨1 + p.kd % 11, pText p, (b.length : Int)⟩]) := by
      unfold R.stepT
      rw [show (pSrc p ++ pGap p).data.toList = D (pSrc p ++ pGap p) from rfl, D_app]
    rw [e, foldR P]
    simp only [bytesR, toksR, List.flatMap_cons, List.append_assoc, List.length_append, List.cons_append, List.nil_append]
theorem textR (P : List Pc) : textS P = (bytesR P, toksR P 0) := by
  have h := foldR P [] []
  simpa [textS] using h
theorem toksR_len : ∀ (P : List Pc) (i : Nat), (toksR P i).length = P.length
  | [], _ => rfl
  | p :: P, i => by rw [toksR, List.length_cons, toksR_len P, List.length_cons]
/-- Pieces in a row are scanned as their tokens. -/
theorem scan_row (s : ByteArray) (hs : s.size ≤ 1099511627776) : ∀ (P : List Pc) (i : Nat), (∀ p ∈ P, Good p) → i ≤ s.size → (D s).drop i = bytesR P → ∀ k, 2 * P.length + 1 ≤ k → scanN k s (i : Int) = some (toksR P i, -1)
  | [], i, _, hi, h, k, hk => by
    have hl := drop_len h hi
    have hi2 : i = s.size := by simpa [bytesR] using hl
    obtain ⟨k, rfl⟩ : ∃ z, k = z + 1 := ⟨k - 1, by omega⟩
    rw [hi2, fw_end s hs k]
    rfl
  | p :: P, i, hP, hi, h, k, hk => by
    obtain ⟨⟨hg, _⟩, c, q, hc, hw, h37, ht⟩ := hP p (by simp)
    have h1 : (D s).drop i = c :: (q ++ (D (pGap p) ++ bytesR P)) := by
      rw [h]
      show (D (pSrc p) ++ D (pGap p)) ++ bytesR P = _
      rw [hc]
      simp
    have hl := drop_len h1 hi
    simp only [List.length_cons, List.length_append] at hl hk
    have he : (tokS c (q ++ (D (pGap p) ++ bytesR P))).2.2 = ((q.length + 1 : Nat) : Int) := by rw [ht]
    obtain ⟨k, rfl⟩ : ∃ z, k = z + 1 := ⟨k - 1, by omega⟩
    rw [fw_tok s hs k i c _ h1 hw h37 (q.length + 1) he (by omega) (by omega), ht]
    have h2 : (D s).drop (i + (q.length + 1)) = D (pGap p) ++ bytesR P := by
      have h3 : (D s).drop i = (c :: q) ++ (D (pGap p) ++ bytesR P) := h1
      have h4 := drop_add h3
      rw [List.length_cons] at h4
      exact h4
    obtain ⟨d, hd, hsk⟩ := fw_gap s hs 0 (i + (q.length + 1)) (by omega) _ _ h2 hg
    obtain ⟨j, hj⟩ : ∃ j, k = j + 1 + d := ⟨k - 1 - d, by omega⟩
    rw [hj, hsk j]
    have h5 := drop_add h2
    rw [scan_row s hs P (i + (q.length + 1) + (D (pGap p)).length) (fun x hx => hP x (by simp [hx])) (by omega) h5 (j + 1) (by omega)]
    rw [toksR, hc, Option.map_some]
    simp only [List.length_append, List.length_cons, ← Nat.add_assoc]
/-- The whole string. -/
theorem scan_text (P : List Pc) (hP : ∀ p ∈ P, Good p) (hl : P.length ≤ 20) (hb : (bytesR P).length ≤ 1000000) : scanF ⟨(textS P).1.toArray⟩ = some ((textS P).2, 0, 0) ∧ H.yieldF ⟨(textS P).1.toArray⟩ = some (textS P).2 := by
  rw [textR]
  obtain ⟨s, hs⟩ : ∃ s, (⟨(bytesR P).toArray⟩ : ByteArray) = s := ⟨_, rfl⟩
  have hD : D s = bytesR P := by rw [← hs]; first | done | exact D_mk _
  have hsz : s.size = (bytesR P).length := by rw [← hD]; exact (D_len s).symm
  have hlen : ∀ Q : List Pc, (∀ p ∈ Q, Good p) → 2 * Q.length ≤ (bytesR Q).length := by
    intro Q
    induction Q with
    | nil => intro _; simp
    | cons p Q ih =>
      intro h
      have h1 := ih (fun x hx => h x (by simp [hx]))
      obtain ⟨⟨_, hg⟩, c, q, hc, _⟩ := h p (by simp)
      have e : bytesR (p :: Q) = D (pSrc p) ++ D (pGap p) ++ bytesR Q := rfl
      rw [e, hc]
      simp only [List.length_append, List.length_cons]
      omega
  have hq := hlen P hP
  rw [hs]
  have h := scan_row s (by omega) P 0 hP (Nat.zero_le _) (by rw [List.drop_zero, hD]) (s.size + 2) (by omega)
  have ht := toksR_len P 0
  unfold scanF H.yieldF
  rw [if_pos (by omega), show (0 : Int) = ((0 : Nat) : Int) from rfl, h, Option.bind_some, Option.bind_some]
  refine ⟨?_, ?_⟩
  · rw [if_pos (by dsimp only; omega), if_neg (show ¬ ((0 : Nat) : Int) ≤ -1 by decide)]
    try rfl
  · rw [if_pos (by omega), if_pos (by dsimp only; omega)]
end Go.Proofs.YtlpoglkddknedaaGreatDoor.P

namespace Go.Proofs.YtlpoglkddknedaaGreatDoor.P
open Go.RowKit Go.Proofs.YtlpoglkddknedaaGreatDoor.T Go.Proofs.YtlpoglkddknedaaGreatDoor.H Go.Proofs.YtlpoglkddknedaaGreatDoor.R Go.Proofs.YtlpoglkddknedaaGreatDoorW.PrintWords Go.Proofs.YtlpoglkddknedaaGreatDoorW.PrintLast
set_option linter.unusedVariables false
set_option linter.unusedSimpArgs false
def gapB (g : List UInt8) (t : Bool) : Bool := (g.all (inS WS) || g == pctGap) && (match g with | c :: _ => inS WS c && (!t || c == 10) | [] => false)
theorem gapB_of {g : List UInt8} {t : Bool} (h : gapB g t = true) : GapOk g ∧ 0 < g.length ∧ ∃ c r, g = c :: r ∧ inS WS c = true ∧ (t = true → c = 10) := by
  unfold gapB at h
  rw [Bool.and_eq_true, Bool.or_eq_true] at h
  refine ⟨h.1.elim .inl (fun e => .inr (eq_of_beq e)), ?_⟩
  cases g with
  | nil => exact absurd h.2 (by simp)
  | cons c r =>
    have h2 := h.2
    simp only [Bool.and_eq_true, Bool.or_eq_true, Bool.not_eq_true', beq_iff_eq] at h2
    exact ⟨by simp, c, r, rfl, h2.1, fun e => h2.2.elim (fun x => by rw [e] at x; cases x) id⟩
theorem gap6 : ∀ i : Fin 6, gapB (D (gaps.getD i.val ⟨#[]⟩)) false = true := by decide +kernel
theorem gapT6 : ∀ i : Fin 6, gapB (D (⟨#[10]⟩ ++ ⟨(Lib.trimLeftB (gaps.getD i.val ⟨#[]⟩).data.toList 10).toArray⟩)) true = true := by decide +kernel
theorem gap_of (p : Pc) : GapOk (D (pGap p)) ∧ 0 < (D (pGap p)).length ∧ ∃ c r, D (pGap p) = c :: r ∧ inS WS c = true ∧ (p.kd % 11 = 9 ∧ p.n % 2 = 1 → c = 10) := by
  have hi : (p.gp % 6).toNat < 6 := by omega
  unfold pGap gapOf
  by_cases h : p.kd % 11 = 9 ∧ p.n % 2 = 1
  · rw [if_pos h]
    obtain ⟨h1, h2, c, r, h3, h4, h5⟩ := gapB_of (gapT6 ⟨_, hi⟩)
    exact ⟨h1, h2, c, r, h3, h4, fun _ => h5 rfl⟩
  · rw [if_neg h]
    obtain ⟨h1, h2, c, r, h3, h4, h5⟩ := gapB_of (gap6 ⟨_, hi⟩)
    exact ⟨h1, h2, c, r, h3, h4, fun x => absurd x h⟩
theorem ws_not (c : UInt8) (h : inS WS c = true) : inS SY c = false ∧ inS DG c = false ∧ inS MK c = false := by
  have := byte_all (p := fun c => !(inS WS c) || (!(inS SY c) && (!(inS DG c) && !(inS MK c)))) (by decide +kernel) c
  simpa [h] using this
theorem good_sign (p : Pc) (j : Nat) (hj : j < 6) (h : p.kd % 11 = 2 + (j : Int)) : Good p := by
  obtain ⟨g1, g2, gc, gr, g3, g4, g5⟩ := gap_of p
  have hs : pSrc p = signT p := by
    unfold pSrc
    rw [if_neg (by omega), if_neg (by omega), if_neg (by omega), if_neg (by omega), if_neg (by omega)]
  have ht : pText p = signT p := by
    unfold pText
    rw [if_neg (by omega), if_neg (by omega), if_neg (by omega), if_neg (by omega), if_neg (by omega)]
  have hk : (p.kd % 11).toNat - 2 = j := by omega
  have hsg : signT p = ⟨#[([46, 42, 91, 93, 40, 41] : List UInt8).getD j 0]⟩ := by unfold signT; rw [hk]
  have key : ∀ i : Fin 6, inS WS (([46, 42, 91, 93, 40, 41] : List UInt8).getD i.val 0) = false ∧ (([46, 42, 91, 93, 40, 41] : List UInt8).getD i.val 0).toNat ≠ 37 ∧ inS AN (([46, 42, 91, 93, 40, 41] : List UInt8).getD i.val 0) = false ∧ inS SG (([46, 42, 91, 93, 40, 41] : List UInt8).getD i.val 0) = true ∧ Lib.indexByte (D SG) (([46, 42, 91, 93, 40, 41] : List UInt8).getD i.val 0) = (i.val : Int) := by decide +kernel
  obtain ⟨k1, k2, k3, k4, k5⟩ := key ⟨j, hj⟩
  refine ⟨⟨g1, g2⟩, ([46, 42, 91, 93, 40, 41] : List UInt8).getD j 0, [], by rw [hs, hsg]; try rfl, k1, k2, fun r => ?_⟩
  unfold tokS
  rw [if_neg (by rw [k3]; decide), if_pos k4, k5, ht, hsg, h]
  rw [show (3 : Int) + ((⟨j, hj⟩ : Fin 6).val : Int) = 1 + (2 + (j : Int)) by show (3 : Int) + (j : Int) = _; omega]
  rfl
theorem good_mark (p : Pc) (h : p.kd % 11 = 10) : Good p := by
  obtain ⟨g1, g2, gc, gr, g3, g4, g5⟩ := gap_of p
  obtain ⟨_, _, gm⟩ := ws_not gc g4
  have hs : pSrc p = markOf p.n := by
    unfold pSrc
    rw [if_neg (by omega), if_neg (by omega), if_neg (by omega), if_neg (by omega), if_pos h]
  have ht : pText p = markOf p.n := by
    unfold pText
    rw [if_neg (by omega), if_neg (by omega), if_neg (by omega), if_neg (by omega), if_pos h]
  have hi : (p.n % 6).toNat < 6 := by omega
  have key : ∀ i : Fin 6, ∃ c q, D (marks.getD i.val ⟨#[]⟩) = c :: q ∧ inS WS c = false ∧ c.toNat ≠ 37 ∧ inS AN c = false ∧ inS SG c = false ∧ (c :: q).all (inS MK) = true ∧ q.length ≤ 1 := by
    intro i
    match i with
    | ⟨0, _⟩ => exact ⟨33, [], rfl, by decide, by decide, by decide, by decide, by decide, by decide⟩
    | ⟨1, _⟩ => exact ⟨63, [], rfl, by decide, by decide, by decide, by decide, by decide, by decide⟩
    | ⟨2, _⟩ => exact ⟨33, [33], rfl, by decide, by decide, by decide, by decide, by decide, by decide⟩
    | ⟨3, _⟩ => exact ⟨63, [63], rfl, by decide, by decide, by decide, by decide, by decide, by decide⟩
    | ⟨4, _⟩ => exact ⟨33, [63], rfl, by decide, by decide, by decide, by decide, by decide, by decide⟩
    | ⟨5, _⟩ => exact ⟨63, [33], rfl, by decide, by decide, by decide, by decide, by decide, by decide⟩
  obtain ⟨c, q, k0, k1, k2, k3, k4, k5, k6⟩ := key ⟨_, hi⟩
  have hD : D (markOf p.n) = c :: q := k0
  refine ⟨⟨g1, g2⟩, c, q, by rw [hs]; exact hD, k1, k2, fun r => ?_⟩
  have hsp : spnL (inS MK) (c :: (q ++ (D (pGap p) ++ r))) = (c :: q).length := by
    rw [g3]
    exact spnL_exact (inS MK) (c :: q) gc (gr ++ r) k5 gm
  have hmk : inS MK c = true := by rw [List.all_cons, Bool.and_eq_true] at k5; exact k5.1
  unfold tokS
  rw [if_neg (by rw [k3]; decide), if_neg (by rw [k4]; decide), if_pos hmk, hsp, ht, h]
  have hmin : min (c :: q).length 2 = (c :: q).length := by simp only [List.length_cons]; omega
  rw [hmin]
  have htk : (c :: (q ++ (D (pGap p) ++ r))).take (c :: q).length = c :: q := by
    show ((c :: q) ++ (D (pGap p) ++ r)).take _ = _
    exact List.take_left
  rw [htk, ← hD, mk_D]
  rw [hD]
  rfl
/-- Whatever symbol: a letter or digit, then the characters of symbols. -/
theorem good_sym_of (p : Pc) (c : UInt8) (q : List UInt8) (h : p.kd % 11 = 1) (hD : D (symT p) = c :: q) (hA : inS AN c = true) (hq : (c :: q).all (inS SY) = true) (hl : (c :: q).length ≤ 255) : Good p := by
  obtain ⟨g1, g2, gc, gr, g3, g4, g5⟩ := gap_of p
  obtain ⟨gs, _, _⟩ := ws_not gc g4
  have hs : pSrc p = symT p := by unfold pSrc; rw [if_neg (by omega), if_pos h]
  have ht : pText p = symT p := by unfold pText; rw [if_neg (by omega), if_pos h]
  obtain ⟨hw, h37⟩ := an_ws c hA
  refine ⟨⟨g1, g2⟩, c, q, by rw [hs]; exact hD, hw, h37, fun r => ?_⟩
  have hsp : spnL (inS SY) (c :: (q ++ (D (pGap p) ++ r))) = (c :: q).length := by
    rw [g3]
    exact spnL_exact (inS SY) (c :: q) gc (gr ++ r) hq gs
  unfold tokS
  rw [if_pos hA, hsp, if_pos hl, ht, h]
  have htk : (c :: (q ++ (D (pGap p) ++ r))).take (c :: q).length = c :: q := by
    show ((c :: q) ++ (D (pGap p) ++ r)).take _ = _
    exact List.take_left
  rw [htk, ← hD, mk_D]
  rw [hD]
  rfl
end Go.Proofs.YtlpoglkddknedaaGreatDoor.P

namespace Go.Proofs.YtlpoglkddknedaaGreatDoor.P
open Go.RowKit Go.Proofs.YtlpoglkddknedaaGreatDoor.T Go.Proofs.YtlpoglkddknedaaGreatDoor.H Go.Proofs.YtlpoglkddknedaaGreatDoor.R Go.Proofs.YtlpoglkddknedaaGreatDoorW.PrintWords Go.Proofs.YtlpoglkddknedaaGreatDoorW.PrintLast
set_option linter.unusedVariables false
set_option linter.unusedSimpArgs false
theorem good_gly_of (p : Pc) (h : p.kd % 11 = 8) (hq : (D (glyT p)).all (inS DG) = true) (h1 : 1 ≤ (D (glyT p)).length) (h3 : (D (glyT p)).length ≤ 3) : Good p := by
  obtain ⟨g1, g2, gc, gr, g3, g4, g5⟩ := gap_of p
  obtain ⟨_, gd, _⟩ := ws_not gc g4
  have hs : pSrc p = ⟨#[36]⟩ ++ glyT p := by unfold pSrc; rw [if_neg (by omega), if_neg (by omega), if_pos h]
  have ht : pText p = glyT p := by unfold pText; rw [if_neg (by omega), if_neg (by omega), if_pos h]
  refine ⟨⟨g1, g2⟩, 36, D (glyT p), by rw [hs, D_app]; rfl, by decide, by decide, fun r => ?_⟩
  have hsp : spnL (inS DG) (D (glyT p) ++ (D (pGap p) ++ r)) = (D (glyT p)).length := by
    rw [g3]
    exact spnL_exact (inS DG) _ gc (gr ++ r) hq gd
  unfold tokS
  rw [if_neg (by decide), if_neg (by decide), if_neg (by decide), if_neg (by decide), if_pos (by decide), hsp, if_pos ⟨h1, h3⟩, List.take_left, mk_D, ht, h]
  rfl
theorem good_com0_of (p : Pc) (h : p.kd % 11 = 9) (h2 : p.n % 2 = 0) (hq : (D (comText p.B 125 41)).all (· != 125) = true) : Good p := by
  obtain ⟨g1, g2, gc, gr, g3, g4, g5⟩ := gap_of p
  have hs : pSrc p = ⟨#[123]⟩ ++ comText p.B 125 41 ++ ⟨#[125]⟩ := by unfold pSrc; rw [if_neg (by omega), if_neg (by omega), if_neg (by omega), if_pos h, if_pos h2]
  have ht : pText p = comText p.B 125 41 := by unfold pText; rw [if_neg (by omega), if_neg (by omega), if_neg (by omega), if_pos h, if_pos h2]
  refine ⟨⟨g1, g2⟩, 123, D (comText p.B 125 41) ++ [125], by rw [hs, D_app, D_app]; rfl, by decide, by decide, fun r => ?_⟩
  have e : (D (comText p.B 125 41) ++ [125]) ++ (D (pGap p) ++ r) = D (comText p.B 125 41) ++ 125 :: (D (pGap p) ++ r) := by simp
  rw [e]
  have hsp : spnL (· != 125) (D (comText p.B 125 41) ++ 125 :: (D (pGap p) ++ r)) = (D (comText p.B 125 41)).length := spnL_exact _ _ 125 _ hq (by decide)
  unfold tokS
  rw [if_neg (by decide), if_neg (by decide), if_neg (by decide), if_neg (by decide), if_neg (by decide), if_pos (by decide), hsp, if_pos (by simp), List.take_left, mk_D, ht, h]
  simp only [List.length_append, List.length_cons, List.length_nil]
  congr 2
theorem good_com1_of (p : Pc) (h : p.kd % 11 = 9) (h2 : p.n % 2 = 1) (hq : (D (comText p.B 10 32)).all (· != 10) = true) : Good p := by
  obtain ⟨g1, g2, gc, gr, g3, g4, g5⟩ := gap_of p
  obtain rfl := g5 ⟨h, h2⟩
  have hs : pSrc p = ⟨#[59]⟩ ++ comText p.B 10 32 := by unfold pSrc; rw [if_neg (by omega), if_neg (by omega), if_neg (by omega), if_pos h, if_neg (by omega)]
  have ht : pText p = comText p.B 10 32 := by unfold pText; rw [if_neg (by omega), if_neg (by omega), if_neg (by omega), if_pos h, if_neg (by omega)]
  refine ⟨⟨g1, g2⟩, 59, D (comText p.B 10 32), by rw [hs, D_app]; rfl, by decide, by decide, fun r => ?_⟩
  have hsp : spnL (· != 10) (D (comText p.B 10 32) ++ (D (pGap p) ++ r)) = (D (comText p.B 10 32)).length := by
    rw [g3]
    exact spnL_exact _ _ 10 (gr ++ r) hq (by decide)
  unfold tokS
  rw [if_neg (by decide), if_neg (by decide), if_neg (by decide), if_neg (by decide), if_neg (by decide), if_neg (by decide), if_pos (by decide), hsp, List.take_left, mk_D, ht, h]
  rfl
/-- A quoted text is read back, whatever follows. -/
theorem textL_repl : ∀ (l : List UInt8) (i : Nat) (acc r : List UInt8), l.all prnt = true → acc.length + l.length ≤ 255 → textL (replL l ++ 34 :: r) i acc = (⟨(acc ++ l).toArray⟩, (i : Int) + ((replL l).length : Int) + 2)
  | [], i, acc, r, _, h => by
    show textL (34 :: r) i acc = _
    simp only [List.length_nil] at h
    rw [textL_cons, if_neg (by decide), if_pos (by decide), if_neg (by omega), List.append_nil]
    simp [replL]
  | c :: l, i, acc, r, hp, h => by
    rw [List.all_cons, Bool.and_eq_true] at hp
    obtain ⟨hc, hl⟩ := hp
    have hc' : 32 ≤ c.toNat ∧ c.toNat ≤ 126 := of_decide_eq_true hc
    simp only [List.length_cons] at h
    have ih := fun i => textL_repl l i (acc ++ [c]) r hl (by simp only [List.length_append, List.length_cons, List.length_nil]; omega)
    have hacc : acc ++ [c] ++ l = acc ++ c :: l := by simp
    rw [hacc] at ih
    have e : replL (c :: l) = esc c ++ replL l := by simp [replL]
    rw [e]
    by_cases h1 : c = 92
    · subst h1
      show textL (92 :: 92 :: (replL l ++ 34 :: r)) i acc = _
      rw [textL_cons, if_neg (by decide), if_neg (by decide), if_pos (by decide)]
      dsimp only
      rw [if_pos (by decide), ih (i + 2)]
      simp only [List.length_append, show (esc 92).length = 2 from rfl]
      congr 1
      omega
    · by_cases h2 : c = 34
      · subst h2
        show textL (92 :: 34 :: (replL l ++ 34 :: r)) i acc = _
        rw [textL_cons, if_neg (by decide), if_neg (by decide), if_pos (by decide)]
        dsimp only
        rw [if_pos (by decide), ih (i + 2)]
        simp only [List.length_append, show (esc 34).length = 2 from rfl]
        congr 1
        omega
      · have he : esc c = [c] := by unfold esc; rw [if_neg h1, if_neg h2]
        rw [he]
        show textL (c :: (replL l ++ 34 :: r)) i acc = _
        rw [textL_cons, if_neg (by omega), if_neg (fun x => h2 (eq_of_nat (n := 34) x (by decide))), if_neg (fun x => h1 (eq_of_nat (n := 92) x (by decide))), ih (i + 1)]
        simp only [List.length_append, List.length_cons, List.length_nil]
        congr 1
        omega
theorem good_str_of (p : Pc) (h : p.kd % 11 = 0) (hp : (D (strT p)).all prnt = true) (hl : (D (strT p)).length ≤ 255) : Good p := by
  obtain ⟨g1, g2, gc, gr, g3, g4, g5⟩ := gap_of p
  have hs : pSrc p = ⟨#[34]⟩ ++ ⟨(replL (D (strT p))).toArray⟩ ++ ⟨#[34]⟩ := by unfold pSrc; rw [if_pos h]
  have ht : pText p = strT p := by unfold pText; rw [if_pos h]
  refine ⟨⟨g1, g2⟩, 34, replL (D (strT p)) ++ [34], by rw [hs, D_app, D_app, D_mk]; try rfl, by decide, by decide, fun r => ?_⟩
  have e : (replL (D (strT p)) ++ [34]) ++ (D (pGap p) ++ r) = replL (D (strT p)) ++ 34 :: (D (pGap p) ++ r) := by simp
  rw [e]
  have htx := textL_repl (D (strT p)) 0 [] (D (pGap p) ++ r) hp (by simpa using hl)
  unfold tokS
  rw [if_neg (by decide), if_neg (by decide), if_neg (by decide), if_pos (by decide), htx, List.nil_append, mk_D, ht, h]
  simp only [List.length_append, List.length_cons, List.length_nil]
  congr 2
  omega
end Go.Proofs.YtlpoglkddknedaaGreatDoor.P

namespace Go.Proofs.YtlpoglkddknedaaGreatDoor.P
open Go.RowKit Go.Proofs.YtlpoglkddknedaaGreatDoor.T Go.Proofs.YtlpoglkddknedaaGreatDoor.H Go.Proofs.YtlpoglkddknedaaGreatDoor.R Go.Proofs.YtlpoglkddknedaaGreatDoorW.PrintWords Go.Proofs.YtlpoglkddknedaaGreatDoorW.PrintLast
set_option linter.unusedVariables false
set_option linter.unusedSimpArgs false
/-- One byte by another, everywhere. -/
theorem repl1 (o r : UInt8) : ∀ s : List UInt8, Lib.replaceK [o] [r] (Lib.count s [o]) s = s.map fun c => if c = o then r else c
  | [] => by
    rw [Lib.count_miss (by rw [Lib.index_one]; rfl)]
    rfl
  | b :: l => by
    have ih := repl1 o r l
    by_cases h : b = o
    · subst h
      rw [Lib.count_cons_eq, Nat.add_comm, Lib.replaceK_hit [b] [r] _ (b :: l) 0 (by rw [Lib.index_one]; simp [Lib.indexByte])]
      simp only [List.take_zero, List.nil_append, List.length_cons, List.length_nil, Nat.zero_add, List.drop_succ_cons, List.drop_zero, List.map_cons, if_true, ih]
      rfl
    · rw [Lib.count_cons_ne b o l h, List.map_cons, if_neg h, ← ih]
      cases hn : Lib.count l [o] with
      | zero => rfl
      | succ k =>
        obtain ⟨i, hi⟩ := Lib.index_of_count (s := l) (old := [o]) (by omega)
        have hi2 : Lib.index (b :: l) [o] = ((i + 1 : Nat) : Int) := by
          rw [Lib.index_one] at hi ⊢
          have hb : (b == o) = false := by simpa using h
          have hne : ¬ ((i : Int) = -1) := by omega
          simp only [Lib.indexByte, hb, hi, Bool.false_eq_true, if_false]
          first
            | (rw [if_neg (by simp)]; push_cast; rfl)
            | (simp [hne])
        rw [Lib.replaceK_hit [o] [r] k (b :: l) (i + 1) hi2, Lib.replaceK_hit [o] [r] k l i hi]
        rfl
theorem replAll1 (o r : UInt8) (h : o ≠ r) (s : List UInt8) : Lib.replaceAll s [o] [r] = s.map fun c => if c = o then r else c := by
  have hne : ¬ (([o] : List UInt8) == [r]) = true := fun e => h (by simpa using e)
  have hnum : Lib.replaceNum s [o] (-1) = Lib.count s [o] := by unfold Lib.replaceNum; rw [if_pos (.inl (by decide))]
  unfold Lib.replaceAll Lib.replace
  rw [if_neg hne, hnum, repl1]
theorem comText_eq (B : List Int) (o r : UInt8) (h : o ≠ r) : D (comText B o r) = (u8s (B.take 300)).map fun c => if c = o then r else c := by
  unfold comText
  rw [D_mk, replAll1 o r h]
theorem comText_free (B : List Int) (o r : UInt8) (h : o ≠ r) : (D (comText B o r)).all (· != o) = true := by
  rw [comText_eq B o r h, List.all_eq_true]
  intro c hc
  obtain ⟨x, _, rfl⟩ := List.mem_map.1 hc
  by_cases e : x = o
  · rw [if_pos e]; simpa using h.symm
  · rw [if_neg e]; simpa using e
theorem comText_size (B : List Int) (o r : UInt8) : (comText B o r).size ≤ 300 := by
  have hu : (u8s (B.take 300)).length ≤ 300 := by rw [u8s, List.length_map, List.length_take]; omega
  rw [← D_len]
  by_cases h : o = r
  · subst h
    have e : Lib.replaceAll (u8s (B.take 300)) [o] [o] = u8s (B.take 300) := by
      unfold Lib.replaceAll Lib.replace
      rw [if_pos (by simp)]
    unfold comText
    rw [D_mk, e]
    exact hu
  · rw [comText_eq B o r h, List.length_map]
    exact hu
theorem letter_all (p : UInt8 → Bool) (set : ByteArray) (hs : 0 < set.size) (hp : set.data.toList.all p = true) (l : List Int) : (lettersL set l).all p = true := by
  rw [List.all_eq_true]
  intro c hc
  obtain ⟨x, _, rfl⟩ := List.mem_map.1 hc
  unfold letterOf
  have hlt : x.toNat % set.size < set.data.toList.length := by
    have : set.data.toList.length = set.size := Array.length_toList
    rw [this]
    exact Nat.mod_lt _ hs
  rw [List.getD_eq_getElem?_getD, List.getElem?_eq_getElem hlt]
  exact List.all_eq_true.1 hp _ (List.getElem_mem _)
theorem strT_facts (p : Pc) : (D (strT p)).all prnt = true ∧ (D (strT p)).length ≤ 255 := by
  unfold strT
  rw [D_mk, lettersL_length, List.length_take]
  exact ⟨letter_all prnt printableS (by decide) (by decide +kernel) _, by omega⟩
theorem glyT_facts (p : Pc) (hn : 0 ≤ p.n) : (D (glyT p)).all (inS DG) = true ∧ 1 ≤ (D (glyT p)).length ∧ (D (glyT p)).length ≤ 3 := by
  unfold glyT
  rw [D_mk, lettersL_length, List.length_take, List.length_cons]
  refine ⟨letter_all (inS DG) digS (by decide) (by decide +kernel) _, ?_, ?_⟩
  · have : 1 ≤ (1 + p.n % 3).toNat := by omega
    omega
  · omega
theorem an62 : ∀ i : Fin 62, inS AN (firstS.data.getD i.val 0) = true ∧ inS SY (firstS.data.getD i.val 0) = true := by decide +kernel
theorem symT_facts (p : Pc) : ∃ c q, D (symT p) = c :: q ∧ inS AN c = true ∧ (c :: q).all (inS SY) = true ∧ (c :: q).length ≤ 255 := by
  have hi : (p.n % 62).toNat < 62 := by omega
  obtain ⟨h1, h2⟩ := an62 ⟨_, hi⟩
  refine ⟨firstS.data.getD (p.n % 62).toNat 0, lettersL laterS (p.B.take 254), ?_, h1, ?_, ?_⟩
  · unfold symT firstOf
    rw [D_app, D_mk]
    rfl
  · rw [List.all_cons, Bool.and_eq_true]
    exact ⟨h2, letter_all (inS SY) laterS (by decide) (by decide +kernel) _⟩
  · rw [List.length_cons, lettersL_length, List.length_take]
    omega
theorem good_all (p : Pc) (hn : 0 ≤ p.n) : Good p := by
  have hcases : p.kd % 11 = 0 ∨ p.kd % 11 = 1 ∨ p.kd % 11 = 8 ∨ p.kd % 11 = 9 ∨ p.kd % 11 = 10 ∨ ∃ j : Nat, j < 6 ∧ p.kd % 11 = 2 + (j : Int) := by
    by_cases h : 2 ≤ p.kd % 11 ∧ p.kd % 11 ≤ 7
    · exact .inr (.inr (.inr (.inr (.inr ⟨(p.kd % 11).toNat - 2, by omega, by omega⟩))))
    · omega
  rcases hcases with h | h | h | h | h | ⟨j, hj, h⟩
  · exact good_str_of p h (strT_facts p).1 (strT_facts p).2
  · obtain ⟨c, q, h1, h2, h3, h4⟩ := symT_facts p
    exact good_sym_of p c q h h1 h2 h3 h4
  · obtain ⟨h1, h2, h3⟩ := glyT_facts p hn
    exact good_gly_of p h h1 h2 h3
  · by_cases h2 : p.n % 2 = 0
    · exact good_com0_of p h h2 (comText_free _ _ _ (by decide))
    · exact good_com1_of p h (by omega) (comText_free _ _ _ (by decide))
  · exact good_mark p h
  · exact good_sign p j hj h
theorem replL_len : ∀ l : List UInt8, (replL l).length ≤ 2 * l.length
  | [] => by simp [replL]
  | c :: l => by
    have ih := replL_len l
    have e : replL (c :: l) = esc c ++ replL l := by simp [replL]
    have h2 : (esc c).length ≤ 2 := by
      unfold esc
      split
      · simp
      · split <;> simp
    rw [e, List.length_append, List.length_cons]
    omega
theorem mk_size (l : List UInt8) : (⟨l.toArray⟩ : ByteArray).size = l.length := List.size_toArray
theorem gapB6 : ∀ i : Fin 6, (gaps.getD i.val ⟨#[]⟩).size ≤ 17 ∧ ((⟨#[10]⟩ : ByteArray) ++ ⟨(Lib.trimLeftB (gaps.getD i.val ⟨#[]⟩).data.toList 10).toArray⟩).size ≤ 18 := by decide +kernel
theorem mark6 : ∀ i : Fin 6, (marks.getD i.val ⟨#[]⟩).size ≤ 2 := by decide +kernel
theorem piece_size (p : Pc) : (pSrc p).size + (pGap p).size ≤ 1000 := by
  have hi : (p.gp % 6).toNat < 6 := by omega
  have hg : (pGap p).size ≤ 18 := by
    unfold pGap gapOf
    obtain ⟨h1, h2⟩ := gapB6 ⟨_, hi⟩
    split
    · exact h2
    · exact Nat.le_trans h1 (by omega)
  have hs : (pSrc p).size ≤ 600 := by
    unfold pSrc
    split
    · have h1 := replL_len (strT p).data.toList
      have h2 : (strT p).data.toList.length ≤ 255 := (strT_facts p).2
      have h3 := mk_size (replL (strT p).data.toList)
      rw [ByteArray.size_append, ByteArray.size_append, h3]
      show 1 + _ + 1 ≤ 600
      omega
    · split
      · obtain ⟨c, q, h1, _, _, h2⟩ := symT_facts p
        rw [← D_len, h1]
        omega
      · split
        · have h2 : (glyT p).size ≤ 3 := by
            unfold glyT
            rw [mk_size, lettersL_length, List.length_take]
            omega
          rw [ByteArray.size_append]
          show 1 + _ ≤ 600
          omega
        · split
          · split
            · have := comText_size p.B 125 41
              rw [ByteArray.size_append, ByteArray.size_append]
              show 1 + _ + 1 ≤ 600
              omega
            · have := comText_size p.B 10 32
              rw [ByteArray.size_append]
              show 1 + _ ≤ 600
              omega
          · split
            · exact Nat.le_trans (mark6 ⟨(p.n % 6).toNat, by omega⟩) (by omega)
            · exact Nat.le_trans (show _ ≤ 1 by unfold signT; exact Nat.le_refl _) (by omega)
  omega
theorem bytesR_len : ∀ P : List Pc, (bytesR P).length ≤ 1000 * P.length
  | [] => by simp [bytesR]
  | p :: P => by
    have ih := bytesR_len P
    have h := piece_size p
    have e : bytesR (p :: P) = D (pSrc p) ++ D (pGap p) ++ bytesR P := rfl
    rw [e, List.length_append, List.length_append, D_len, D_len, List.length_cons]
    omega
/-- The text of pieces is scanned as their tokens. -/
theorem scan_pieces (P : List Pc) (hP : ∀ p ∈ P, 0 ≤ p.n) : scanF ⟨(textS (P.take 20)).1.toArray⟩ = some ((textS (P.take 20)).2, 0, 0) ∧ H.yieldF ⟨(textS (P.take 20)).1.toArray⟩ = some (textS (P.take 20)).2 := by
  have hl : (P.take 20).length ≤ 20 := by rw [List.length_take]; omega
  have hb := bytesR_len (P.take 20)
  exact scan_text (P.take 20) (fun p hp => good_all p (hP p (List.mem_of_mem_take hp))) hl (by omega)
end Go.Proofs.YtlpoglkddknedaaGreatDoor.P

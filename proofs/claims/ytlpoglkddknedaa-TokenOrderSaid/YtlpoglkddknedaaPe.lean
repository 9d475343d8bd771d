/- Plain facts on the scanner's functions: runs of bytes, the first place of a byte, one token. Conditions: at most 2^47 - 4096 bytes. · One token, as the plain function tokS tells it: token.one and the answer's own token function both answer so. Conditions: at most 2^47 - 4096 bytes. · The answer's own token function answers as tokS. Conditions: at most 2^47 - 4096 bytes. · The tokens of a string: scanN and the answer's own loop tell the same. Conditions: at most 2^40 bytes. · Quoted forms and symbols: the answer's own functions tell the same as quoteF and token.Is. Conditions: at most 2^40 bytes. -/
import Derived.Test.YtlpoglkddknedaaTx16
import Derived.Test.YtlpoglkddknedaaTx9
import Derived.Test.YtlpoglkddknedaaTx15
import Derived.Test.YtlpoglkddknedaaHc
import Derived.Test.YtlpoglkddknedaaTx18
namespace Go.Proofs.Ytlpoglkddknedaa.P
open Go.RowKit Go.Proofs.Ytlpoglkddknedaa.T Go.Proofs.Ytlpoglkddknedaa.H Go.Proofs.YtlpoglkddknedaaW.PrintWords Go.Proofs.YtlpoglkddknedaaW.PrintLast
set_option linter.unusedVariables false
set_option linter.unusedSimpArgs false

theorem wrap_id {n : Int} (h0 : 0 ≤ n) (h1 : n < 9223372036854775808) : wrap64 n = n := by unfold wrap64; omega

abbrev D (s : ByteArray) : List UInt8 := s.data.toList
theorem D_len (s : ByteArray) : (D s).length = s.size := Array.length_toList
theorem D_ext (s : ByteArray) (i j : Nat) : D (s.extract i j) = ((D s).drop i).take (j - i) := by
  unfold D
  rw [ByteArray.data_extract, Array.toList_extract, List.extract_eq_take_drop]
theorem D_inj {s t : ByteArray} (h : D s = D t) : s = t := by
  have h2 : s.data = t.data := Array.toList_inj.1 h
  cases s; cases t; cases h2; rfl
theorem D_mk (l : List UInt8) : D ⟨l.toArray⟩ = l := by simp [D]
theorem mk_D (s : ByteArray) : (⟨(D s).toArray⟩ : ByteArray) = s := D_inj (by simp [D])
theorem D_app (s t : ByteArray) : D (s ++ t) = D s ++ D t := by simp [D]
theorem ext_all (s : ByteArray) (i : Nat) : D (s.extract i s.size) = (D s).drop i := by
  rw [D_ext, List.take_of_length_le]
  rw [List.length_drop, D_len]
  exact Nat.le_refl _
theorem bt_nat (s : ByteArray) (i : Nat) (h : i < s.size) : bt s (i : Int) = (s[i].toNat : Int) := (bt_at s (i : Int) (by simpa using h)).symm
theorem toList_D (s : ByteArray) : s.toList = D s := by simp [D, ByteArray.toList_eq]

/-! ### runs -/
theorem spnL_nil (p : UInt8 → Bool) : spnL p [] = 0 := rfl
theorem spnL_cons (p : UInt8 → Bool) (c : UInt8) (l : List UInt8) : spnL p (c :: l) = if p c then spnL p l + 1 else 0 := by
  unfold spnL
  rw [List.takeWhile_cons]
  split <;> simp
theorem spnL_le (p : UInt8 → Bool) (l : List UInt8) : spnL p l ≤ l.length := by
  induction l with
  | nil => exact Nat.le_refl _
  | cons c l ih =>
    rw [spnL_cons, List.length_cons]
    split
    · exact Nat.succ_le_succ ih
    · exact Nat.zero_le _
theorem spnL_congr {p q : UInt8 → Bool} (h : ∀ c, p c = q c) (l : List UInt8) : spnL p l = spnL q l := by rw [show p = q from funext h]
theorem spnL_stop (p : UInt8 → Bool) (l : List UInt8) (h : spnL p l < l.length) : p l[spnL p l] = false := by
  induction l with
  | nil => simp at h
  | cons c l ih =>
    by_cases hc : p c = true
    · have he : spnL p (c :: l) = spnL p l + 1 := by rw [spnL_cons, if_pos hc]
      have h2 := ih (by rw [he] at h; simpa using h)
      simp only [he, List.getElem_cons_succ]
      exact h2
    · have he : spnL p (c :: l) = 0 := by rw [spnL_cons, if_neg hc]
      simp only [he, List.getElem_cons_zero]
      simpa using hc
theorem idx_eq (l : List UInt8) (c : UInt8) : Lib.indexByte l c = if spnL (· != c) l < l.length then (spnL (· != c) l : Int) else -1 := by
  induction l with
  | nil => rfl
  | cons b l ih =>
    rw [Lib.indexByte, spnL_cons]
    by_cases h : b = c
    · subst h; simp
    · have h1 : (b == c) = false := by simpa using h
      have h2 : (b != c) = true := by simpa using h
      rw [h1, h2, ih]
      by_cases hl : spnL (· != c) l < l.length
      · have h3 : ((spnL (· != c) l : Int) == -1) = false := by rw [beq_eq_false_iff_ne]; omega
        simp [hl, h3]
      · simp [hl]
theorem idx_has (l : List UInt8) (c : UInt8) : decide (Lib.indexByte l c ≥ 0) = l.contains c := by
  induction l with
  | nil => rfl
  | cons b l ih =>
    rw [Lib.indexByte, List.contains_cons]
    by_cases h : b = c
    · subst h; simp
    · have h1 : (b == c) = false := by simpa using h
      have h2 : (c == b) = false := by simpa using fun e => h e.symm
      have h3 := Lib.indexByte_ge l c
      rw [h1, h2, ← ih, Bool.false_or]
      by_cases hl : Lib.indexByte l c = -1
      · simp [hl]
      · have h4 : (Lib.indexByte l c == -1) = false := beq_eq_false_iff_ne.2 hl
        simp only [h4, Bool.false_eq_true, ↓reduceIte]
        congr 1
        apply propext
        omega
/-! ### the sets -/
def AN : ByteArray := ⟨#[65, 66, 67, 68, 69, 70, 71, 72, 73, 74, 75, 76, 77, 78, 79, 80, 81, 82, 83, 84, 85, 86, 87, 88, 89, 90, 97, 98, 99, 100, 101, 102, 103, 104, 105, 106, 107, 108, 109, 110, 111, 112, 113, 114, 115, 116, 117, 118, 119, 120, 121, 122, 48, 49, 50, 51, 52, 53, 54, 55, 56, 57]⟩
def SY : ByteArray := ⟨#[65, 66, 67, 68, 69, 70, 71, 72, 73, 74, 75, 76, 77, 78, 79, 80, 81, 82, 83, 84, 85, 86, 87, 88, 89, 90, 97, 98, 99, 100, 101, 102, 103, 104, 105, 106, 107, 108, 109, 110, 111, 112, 113, 114, 115, 116, 117, 118, 119, 120, 121, 122, 48, 49, 50, 51, 52, 53, 54, 55, 56, 57, 95, 43, 35, 61, 58, 45, 47]⟩
def DG : ByteArray := ⟨#[48, 49, 50, 51, 52, 53, 54, 55, 56, 57]⟩
def SG : ByteArray := ⟨#[46, 42, 91, 93, 40, 41]⟩
def MK : ByteArray := ⟨#[33, 63]⟩
def WS : ByteArray := ⟨#[32, 9, 13, 10]⟩
def XS : ByteArray := ⟨#[95, 43, 35, 61, 58, 45, 47]⟩

theorem run_eq (r set : ByteArray) (hr : r.size ≤ 140737488351232) (hs : set.size ≤ 140737488351232) (ha : set.data.toList.all (fun b => decide (b.toNat < 128)) = true) : token_run.f r set = some (spnL (inS set) (D r) : Int) := by
  unfold token_run.f token_cutLeft.f
  rw [if_pos ⟨hr, hs, ha⟩, Option.bind_some]
  have h1 : H.spn r set ≤ r.size := by
    have h := spnL_le (inS set) (D r)
    rw [D_len] at h
    exact h
  rw [ByteArray.size_extract, Nat.min_self, wrap_id (by omega) (by omega)]
  congr 1
  show ((r.size : Int) - ((r.size - H.spn r set : Nat) : Int)) = ((H.spn r set : Nat) : Int)
  omega
theorem has_eq (set : ByteArray) (c : UInt8) : token_has.f set (c.toNat : Int) = some (inS set c) := by
  unfold token_has.f strings_IndexByte.f
  rw [Option.bind_some, idx_has]
  unfold inS
  congr 2
  simp
/-! ### the answer's own little functions -/
theorem in_loop (set : ByteArray) (c : Int) (hset : set.size ≤ 140737488351232) : ∀ (n j : Nat), set.size - j ≤ n → Ev (fun k => temporef23_in.l0 k c set j) (((D set).drop j).any fun b => (b.toNat : Int) == c) := by
  intro n
  induction n with
  | zero =>
    intro j hj
    refine Ev.step (fun k => by rw [temporef23_in.l0]) ?_
    simp only [if_neg (show ¬ (j : Int) < (set.size : Int) by omega)]
    rw [drop_end set j (by omega)]
    exact Ev.now _
  | succ n ih =>
    intro j hj
    refine Ev.step (fun k => by rw [temporef23_in.l0]) ?_
    by_cases h : j < set.size
    · simp only [if_pos (show (j : Int) < (set.size : Int) by omega), if_pos (show (0 : Int) ≤ j by omega), bt_nat set j h]
      rw [show wrap64 ((j : Int) + 1) = ((j + 1 : Nat) : Int) by rw [wrap_id (by omega) (by omega)]; rfl, show (D set).drop j = _ from drop_cons set j h, List.any_cons]
      by_cases hc : (set[j].toNat : Int) = c
      · simp only [if_pos hc]
        rw [show ((set[j].toNat : Int) == c) = true from beq_iff_eq.2 hc, Bool.true_or]
        exact Ev.now _
      · simp only [if_neg hc]
        rw [show ((set[j].toNat : Int) == c) = false from beq_eq_false_iff_ne.2 hc, Bool.false_or]
        exact ih (j + 1) (by omega)
    · simp only [if_neg (show ¬ (j : Int) < (set.size : Int) by omega)]
      rw [show (D set).drop j = [] from drop_end set j (by omega)]
      exact Ev.now _
theorem any_in (set : ByteArray) (c : UInt8) : ((D set).any fun b => (b.toNat : Int) == (c.toNat : Int)) = inS set c := by
  unfold inS
  rw [List.contains_eq_any_beq]
  congr 1
  funext b
  rw [Bool.eq_iff_iff, beq_iff_eq, beq_iff_eq]
  constructor
  · intro h; exact (UInt8.toNat_inj.1 (by omega)).symm
  · intro h; rw [h]
theorem in_eq (set : ByteArray) (c : UInt8) (hset : set.size ≤ 140737488351232) : Ev (fun k => temporef23_in.f k (c.toNat : Int) set) (inS set c) := by
  have h := in_loop set (c.toNat : Int) hset set.size 0 (by omega)
  rw [List.drop_zero, any_in] at h
  exact h
theorem until_loop (s : ByteArray) (c : UInt8) (hs : s.size ≤ 140737488351232) : ∀ (n j : Nat), s.size - j ≤ n → j ≤ s.size → Ev (fun k => temporef23_until.l0 k s (c.toNat : Int) j) (((j + spnL (· != c) ((D s).drop j) : Nat) : Int)) := by
  intro n
  induction n with
  | zero =>
    intro j hj hl
    refine Ev.step (fun k => by rw [temporef23_until.l0]) ?_
    simp only [if_neg (show ¬ (j : Int) < (s.size : Int) by omega)]
    rw [show (D s).drop j = [] from drop_end s j (by omega), spnL_nil]
    exact Ev.now _
  | succ n ih =>
    intro j hj hl
    refine Ev.step (fun k => by rw [temporef23_until.l0]) ?_
    by_cases h : j < s.size
    · simp only [if_pos (show (j : Int) < (s.size : Int) by omega), if_pos (show (0 : Int) ≤ j by omega), bt_nat s j h]
      rw [show wrap64 ((j : Int) + 1) = ((j + 1 : Nat) : Int) by rw [wrap_id (by omega) (by omega)]; rfl, show (D s).drop j = _ from drop_cons s j h, spnL_cons]
      by_cases hc : s[j] = c
      · simp only [if_pos (show (s[j].toNat : Int) = (c.toNat : Int) by rw [hc])]
        rw [hc]
        simp
        exact Ev.now _
      · have hn : ¬ (s[j].toNat : Int) = (c.toNat : Int) := fun e => hc (UInt8.toNat_inj.1 (by omega))
        simp only [if_neg hn]
        rw [if_pos (by simpa using hc)]
        have h2 := ih (j + 1) (by omega) (by omega)
        rw [show j + 1 + spnL (· != c) (List.drop (j + 1) (D s)) = j + (spnL (· != c) (List.drop (j + 1) (D s)) + 1) by omega] at h2
        exact h2
    · simp only [if_neg (show ¬ (j : Int) < (s.size : Int) by omega)]
      rw [show (D s).drop j = [] from drop_end s j (by omega), spnL_nil]
      exact Ev.now _
theorem until_eq (s : ByteArray) (c : UInt8) (hs : s.size ≤ 140737488351232) (j : Nat) (hj : j ≤ s.size) : Ev (fun k => temporef23_until.f k s j (c.toNat : Int)) (((j + spnL (· != c) ((D s).drop j) : Nat) : Int)) :=
  until_loop s c hs s.size j (by omega) hj

def isL (c : UInt8) : Bool := (decide (97 ≤ c.toNat) && decide (c.toNat ≤ 122)) || (decide (65 ≤ c.toNat) && decide (c.toNat ≤ 90))
def isD (c : UInt8) : Bool := decide (48 ≤ c.toNat) && decide (c.toNat ≤ 57)
theorem letter_eq (c : UInt8) : temporef23_letter.f (c.toNat : Int) = some (isL c) := by
  unfold temporef23_letter.f isL
  repeat' split
  all_goals (congr 1; rw [Bool.eq_iff_iff]; simp only [Bool.or_eq_true, Bool.and_eq_true, decide_eq_true_eq, Bool.false_eq_true, true_iff, false_iff]; omega)
theorem digit_eq (c : UInt8) : temporef23_digit.f (c.toNat : Int) = some (isD c) := by
  unfold temporef23_digit.f isD
  repeat' split
  all_goals (congr 1; rw [Bool.eq_iff_iff]; simp only [Bool.or_eq_true, Bool.and_eq_true, decide_eq_true_eq, Bool.false_eq_true, true_iff, false_iff]; omega)
theorem byte_all {p : UInt8 → Bool} (h : ∀ n : Fin 256, p (UInt8.ofNat n.val) = true) (c : UInt8) : p c = true := by
  have := h ⟨c.toNat, c.toNat_lt⟩
  simpa using this
theorem an_eq (c : UInt8) : inS AN c = (isL c || isD c) := by
  have := byte_all (p := fun c => inS AN c == (isL c || isD c)) (by decide +kernel) c
  simpa using this
theorem dg_eq (c : UInt8) : inS DG c = isD c := by
  have := byte_all (p := fun c => inS DG c == isD c) (by decide +kernel) c
  simpa using this
theorem sy_eq (c : UInt8) : inS SY c = (isD c || isL c || inS XS c) := by
  have := byte_all (p := fun c => inS SY c == (isD c || isL c || inS XS c)) (by decide +kernel) c
  simpa using this
end Go.Proofs.Ytlpoglkddknedaa.P

namespace Go.Proofs.Ytlpoglkddknedaa.P
open Go.RowKit Go.Proofs.Ytlpoglkddknedaa.T Go.Proofs.Ytlpoglkddknedaa.H Go.Proofs.YtlpoglkddknedaaW.PrintWords Go.Proofs.YtlpoglkddknedaaW.PrintLast
set_option linter.unusedVariables false
set_option linter.unusedSimpArgs false

def bad : Int × ByteArray × Int := (0, ⟨#[]⟩, 0)
/-- The token at the begin of c :: q: kind, text, extent; extent 0: there is none. -/
def tokS (c : UInt8) (q : List UInt8) : Int × ByteArray × Int :=
  if inS AN c = true then (if spnL (inS SY) (c :: q) ≤ 255 then (2, ⟨((c :: q).take (spnL (inS SY) (c :: q))).toArray⟩, (spnL (inS SY) (c :: q) : Int)) else bad)
  else if inS SG c = true then (3 + Lib.indexByte (D SG) c, ⟨#[c]⟩, 1)
  else if inS MK c = true then (11, ⟨((c :: q).take (min (spnL (inS MK) (c :: q)) 2)).toArray⟩, (min (spnL (inS MK) (c :: q)) 2 : Nat))
  else if c.toNat = 34 then (1, (textL q 0 []).1, (textL q 0 []).2)
  else if c.toNat = 36 then (if 1 ≤ spnL (inS DG) q ∧ spnL (inS DG) q ≤ 3 then (9, ⟨(q.take (spnL (inS DG) q)).toArray⟩, (spnL (inS DG) q : Int) + 1) else bad)
  else if c.toNat = 123 then (if spnL (· != 125) q < q.length then (10, ⟨(q.take (spnL (· != 125) q)).toArray⟩, (spnL (· != 125) q : Int) + 2) else bad)
  else if c.toNat = 59 then (10, ⟨(q.take (spnL (· != 10) q)).toArray⟩, (spnL (· != 10) q : Int) + 1)
  else bad

theorem ascii_AN : AN.data.toList.all (fun b => decide (b.toNat < 128)) = true := by decide
theorem ascii_SY : SY.data.toList.all (fun b => decide (b.toNat < 128)) = true := by decide
theorem ascii_DG : DG.data.toList.all (fun b => decide (b.toNat < 128)) = true := by decide
theorem ascii_MK : MK.data.toList.all (fun b => decide (b.toNat < 128)) = true := by decide
theorem ascii_WS : WS.data.toList.all (fun b => decide (b.toNat < 128)) = true := by decide

theorem ext_take (a : ByteArray) (n : Nat) : a.extract 0 n = ⟨((D a).take n).toArray⟩ := D_inj (by rw [D_ext, D_mk]; rfl)
theorem D_cons (a : ByteArray) (h : 0 < a.size) : D a = a[0] :: (D a).drop 1 := by
  have := drop_cons a 0 h
  rwa [List.drop_zero] at this
theorem spnL_pos {p : UInt8 → Bool} {c : UInt8} {l : List UInt8} (h : p c = true) : 1 ≤ spnL p (c :: l) := by rw [spnL_cons, if_pos h]; omega
theorem eq_of_nat {c : UInt8} {n : Nat} (h : c.toNat = n) (hn : n < 256) : c = UInt8.ofNat n := by
  apply UInt8.toNat_inj.1
  rw [h]
  simp
  omega

theorem idx_cons (b c : UInt8) (q : List UInt8) (h : (b != c) = true) : Lib.indexByte (b :: q) c = if spnL (· != c) q < q.length then ((spnL (· != c) q + 1 : Nat) : Int) else -1 := by
  rw [idx_eq, spnL_cons, if_pos h, List.length_cons]
  by_cases hh : spnL (· != c) q < q.length
  · rw [if_pos (by omega), if_pos hh]
  · rw [if_neg (by omega), if_neg hh]

theorem one_eq (a : ByteArray) (h0 : 0 < a.size) (hs : a.size ≤ 140737488351232) : token_one.f a = some (tokS a[0] ((D a).drop 1)) := by
  have hl := D_len a
  have hd := D_cons a h0
  unfold token_one.f
  rw [if_pos (by omega), show bt a 0 = (a[0].toNat : Int) from bt_nat a 0 h0]
  rw [show (⟨#[65, 66, 67, 68, 69, 70, 71, 72, 73, 74, 75, 76, 77, 78, 79, 80, 81, 82, 83, 84, 85, 86, 87, 88, 89, 90, 97, 98, 99, 100, 101, 102, 103, 104, 105, 106, 107, 108, 109, 110, 111, 112, 113, 114, 115, 116, 117, 118, 119, 120, 121, 122, 48, 49, 50, 51, 52, 53, 54, 55, 56, 57]⟩ : ByteArray) = AN from rfl,
    show (⟨#[65, 66, 67, 68, 69, 70, 71, 72, 73, 74, 75, 76, 77, 78, 79, 80, 81, 82, 83, 84, 85, 86, 87, 88, 89, 90, 97, 98, 99, 100, 101, 102, 103, 104, 105, 106, 107, 108, 109, 110, 111, 112, 113, 114, 115, 116, 117, 118, 119, 120, 121, 122, 48, 49, 50, 51, 52, 53, 54, 55, 56, 57, 95, 43, 35, 61, 58, 45, 47]⟩ : ByteArray) = SY from rfl,
    show (⟨#[48, 49, 50, 51, 52, 53, 54, 55, 56, 57]⟩ : ByteArray) = DG from rfl, show (⟨#[46, 42, 91, 93, 40, 41]⟩ : ByteArray) = SG from rfl, show (⟨#[33, 63]⟩ : ByteArray) = MK from rfl]
  rw [has_eq, has_eq, has_eq, run_eq a SY hs (by decide) ascii_SY, run_eq a MK hs (by decide) ascii_MK]
  simp only [Option.bind_some]
  have hle := spnL_le (inS SY) (D a)
  have hle2 := spnL_le (inS MK) (D a)
  have hsp : ∀ p : UInt8 → Bool, spnL p (a[0] :: (D a).drop 1) = spnL p (D a) := fun p => by rw [← hd]
  unfold tokS
  by_cases hA : inS AN a[0] = true
  · rw [if_pos hA, if_pos hA, hsp, ← hd]
    by_cases h255 : spnL (inS SY) (D a) ≤ 255
    · rw [if_pos (by omega), if_pos h255, if_pos (by omega), if_pos (by omega), ext_take]
      rfl
    · rw [if_neg (by omega), if_neg h255]
      rfl
  · rw [if_neg hA, if_neg hA]
    by_cases hS : inS SG a[0] = true
    · rw [if_pos hS, if_pos hS]
      unfold strings_IndexByte.f
      rw [Option.bind_some, if_pos (by omega), if_pos (by omega)]
      have h1 : ((a[0].toNat : Int).toNat.toUInt8) = a[0] := by simp
      rw [h1]
      have h2 := idx_eq (D SG) a[0]
      have h3 : spnL (· != a[0]) (D SG) ≤ (D SG).length := spnL_le _ _
      have h4 : (D SG).length = 6 := rfl
      have h5 := Lib.indexByte_ge (D SG) a[0]
      have h6 : Lib.indexByte (D SG) a[0] < 7 := by rw [h2]; split <;> omega
      rw [show SG.data.toList = D SG from rfl, wrap_id (by omega) (by omega), ext_take, hd]
      rfl
    · rw [if_neg hS, if_neg hS]
      by_cases hM : inS MK a[0] = true
      · rw [if_pos hM, if_pos hM, hsp, ← hd]
        have hmn : mn (spnL (inS MK) (D a) : Int) 2 = ((min (spnL (inS MK) (D a)) 2 : Nat) : Int) := by unfold mn; split <;> omega
        rw [hmn, if_pos (by omega), if_pos (by omega), ext_take]
        rfl
      · rw [if_neg hM, if_neg hM]
        by_cases h34 : a[0].toNat = 34
        · rw [if_pos (by omega), if_pos h34]
          unfold token_text.f textF
          rw [if_pos hs]
          rfl
        · rw [if_neg (by omega), if_neg h34]
          by_cases h36 : a[0].toNat = 36
          · rw [if_pos (by omega), if_pos h36, if_pos (by omega)]
            have hx : D (a.extract 1 a.size) = (D a).drop 1 := ext_all a 1
            rw [run_eq _ DG (by rw [ByteArray.size_extract]; omega) (by decide) ascii_DG, Option.bind_some, hx]
            have hle3 := spnL_le (inS DG) ((D a).drop 1)
            rw [List.length_drop] at hle3
            by_cases h1 : 1 ≤ spnL (inS DG) ((D a).drop 1)
            · rw [if_pos (by omega)]
              by_cases h3 : spnL (inS DG) ((D a).drop 1) ≤ 3
              · rw [if_pos (by omega), wrap_id (by omega) (by omega), if_pos (by omega), if_pos (by omega), if_pos ⟨h1, h3⟩]
                congr 3
                refine D_inj ?_
                rw [D_ext, D_mk]
                congr 1
              · rw [if_neg (by omega), if_neg (fun h => h3 h.2)]
                rfl
            · rw [if_neg (by omega), if_neg (fun h => h1 h.1)]
              rfl
          · rw [if_neg (by omega), if_neg h36]
            by_cases h123 : a[0].toNat = 123
            · rw [if_pos (by omega), if_pos h123]
              unfold strings_IndexByte.f
              rw [Option.bind_some]
              have hc : a[0] = 123 := eq_of_nat (n := 123) h123 (by decide)
              have h2 := idx_cons a[0] 125 ((D a).drop 1) (by rw [hc]; decide)
              rw [← hd] at h2
              rw [show Lib.indexByte a.data.toList (Int.toNat 125).toUInt8 = Lib.indexByte (D a) 125 from rfl, h2]
              have hld : ((D a).drop 1).length = a.size - 1 := by rw [List.length_drop, hl]
              by_cases hh : spnL (· != 125) ((D a).drop 1) < ((D a).drop 1).length
              · rw [if_pos hh, if_pos hh, if_pos (by omega), if_pos (by omega), if_pos (by omega), wrap_id (by omega) (by omega)]
                congr 3
                · refine D_inj ?_
                  rw [D_ext, D_mk]
                  congr 1
              · rw [if_neg hh, if_neg hh, if_neg (by omega)]
                rfl
            · rw [if_neg (by omega), if_neg h123]
              by_cases h59 : a[0].toNat = 59
              · rw [if_pos (by omega), if_pos h59]
                unfold strings_Cut.f stringslite_Cut.f stringslite_Index.f
                have hc : a[0] = 59 := eq_of_nat (n := 59) h59 (by decide)
                have h2 := idx_cons a[0] 10 ((D a).drop 1) (by rw [hc]; decide)
                rw [← hd] at h2
                have hld : ((D a).drop 1).length = a.size - 1 := by rw [List.length_drop, hl]
                have hle4 := spnL_le (· != 10) ((D a).drop 1)
                show (((some (Lib.indexByte (D a) 10)).bind _).bind _).bind _ = _
                rw [Option.bind_some, h2]
                by_cases hh : spnL (· != 10) ((D a).drop 1) < ((D a).drop 1).length
                · rw [if_pos hh, if_pos (by omega), if_pos (by omega), if_pos (by omega)]
                  rw [show ((⟨#[10]⟩ : ByteArray).size : Int) = 1 from rfl, wrap_id (by omega) (by omega), if_pos (by omega), if_pos (by omega)]
                  simp only [Option.bind_some]
                  have hsz : (a.extract 0 (((spnL (· != 10) ((D a).drop 1) + 1 : Nat) : Int)).toNat).size = spnL (· != 10) ((D a).drop 1) + 1 := by rw [ByteArray.size_extract]; omega
                  rw [hsz, if_pos (by omega)]
                  congr 3
                  refine D_inj ?_
                  rw [D_ext, D_ext, D_mk]
                  simp only [List.drop_zero, Int.toNat_natCast, Nat.sub_zero, Nat.add_sub_cancel]
                  rw [List.drop_take, List.take_take]
                  congr 1
                  omega
                · rw [if_neg hh, if_neg (by omega)]
                  simp only [Option.bind_some]
                  rw [if_pos (by omega)]
                  have hall : spnL (· != 10) ((D a).drop 1) = a.size - 1 := by omega
                  congr 3
                  · refine D_inj ?_
                    rw [ext_all, D_mk, List.take_of_length_le (show ((D a).drop 1).length ≤ spnL (· != 10) ((D a).drop 1) by omega)]
                  · omega
              · rw [if_neg (by omega), if_neg h59]
                rfl
end Go.Proofs.Ytlpoglkddknedaa.P

namespace Go.Proofs.Ytlpoglkddknedaa.P
open Go.RowKit Go.Proofs.Ytlpoglkddknedaa.T Go.Proofs.Ytlpoglkddknedaa.H Go.Proofs.YtlpoglkddknedaaW.PrintWords Go.Proofs.YtlpoglkddknedaaW.PrintLast
set_option linter.unusedVariables false
set_option linter.unusedSimpArgs false

theorem step1 (j : Nat) (hj : j < 9223372036854775000) : wrap64 ((j : Int) + 1) = ((j + 1 : Nat) : Int) := by rw [wrap_id (by omega) (by omega)]; rfl

theorem run_loop (s : ByteArray) (b : Bool) (hs : s.size ≤ 140737488351232) : ∀ (n j : Nat), s.size - j ≤ n → j ≤ s.size → Ev (fun k => temporef23_run.l0 k s b j) (((j + spnL (inS (if b then SY else DG)) ((D s).drop j) : Nat) : Int)) := by
  intro n
  induction n with
  | zero =>
    intro j hj hl
    refine Ev.step (fun k => by rw [temporef23_run.l0]) ?_
    simp only [if_neg (show ¬ (j : Int) < (s.size : Int) by omega)]
    rw [show (D s).drop j = [] from drop_end s j (by omega), spnL_nil]
    exact Ev.now _
  | succ n ih =>
    intro j hj hl
    refine Ev.step (fun k => by rw [temporef23_run.l0]) ?_
    by_cases h : j < s.size
    · simp only [if_pos (show (j : Int) < (s.size : Int) by omega), if_pos (show (0 : Int) ≤ j by omega), bt_nat s j h, digit_eq, letter_eq, Option.bind_some]
      rw [step1 j (by omega), show (D s).drop j = _ from drop_cons s j h, spnL_cons]
      have h2 := ih (j + 1) (by omega) (by omega)
      rw [show j + 1 + spnL (inS (if b then SY else DG)) (List.drop (j + 1) (D s)) = j + (spnL (inS (if b then SY else DG)) (List.drop (j + 1) (D s)) + 1) by omega] at h2
      by_cases hd : isD s[j] = true
      · simp only [hd, ↓reduceIte]
        rw [if_pos (by cases b <;> simp [dg_eq, sy_eq, hd])]
        exact h2
      · simp only [hd, Bool.false_eq_true, ↓reduceIte]
        cases b with
        | false =>
          simp only [Bool.false_eq_true, ↓reduceIte]
          rw [if_neg (by rw [dg_eq]; exact hd)]
          exact Ev.now _
        | true =>
          simp only [↓reduceIte] at h2 ⊢
          by_cases hl2 : isL s[j] = true
          · simp only [hl2, ↓reduceIte]
            rw [if_pos (by simp [sy_eq, hl2])]
            exact h2
          · simp only [hl2, Bool.false_eq_true, ↓reduceIte]
            refine Ev.bind (in_eq XS s[j] (by decide)) ?_
            by_cases hx : inS XS s[j] = true
            · simp only [hx, ↓reduceIte]
              rw [if_pos (by simp [sy_eq, hx])]
              exact h2
            · simp only [hx, Bool.false_eq_true, ↓reduceIte]
              rw [if_neg (by simp only [Bool.not_eq_true] at hd hl2 hx; simp [sy_eq, hd, hl2, hx])]
              exact Ev.now _
    · simp only [if_neg (show ¬ (j : Int) < (s.size : Int) by omega)]
      rw [show (D s).drop j = [] from drop_end s j (by omega), spnL_nil]
      exact Ev.now _
theorem run_ev (s : ByteArray) (b : Bool) (hs : s.size ≤ 140737488351232) (j : Nat) (hj : j ≤ s.size) : Ev (fun k => temporef23_run.f k s j b) (((j + spnL (inS (if b then SY else DG)) ((D s).drop j) : Nat) : Int)) :=
  run_loop s b hs s.size j (by omega) hj

theorem ext_one (s : ByteArray) (j : Nat) (h : j < s.size) : s.extract j (j + 1) = ⟨#[s[j]]⟩ := by
  refine D_inj ?_
  rw [D_ext, show (D s).drop j = _ from drop_cons s j h, Nat.add_sub_cancel_left]
  rfl
theorem app_one (acc : List UInt8) (c : UInt8) : (⟨acc.toArray⟩ : ByteArray) ++ ⟨#[c]⟩ = ⟨(acc ++ [c]).toArray⟩ := D_inj (by rw [D_app, D_mk, D_mk])

theorem quoted_loop (s : ByteArray) (hs : s.size ≤ 140737488351232) (at_ : Nat) : ∀ (n i : Nat) (acc : List UInt8), s.size - (at_ + 1 + i) ≤ n → acc.length ≤ i → at_ + 1 + i ≤ s.size →
    Ev (fun k => temporef23_quoted.l0 k s ⟨acc.toArray⟩ ((at_ + 1 + i : Nat) : Int)) ((textL ((D s).drop (at_ + 1 + i)) i acc).1, if (textL ((D s).drop (at_ + 1 + i)) i acc).2 = 0 then 0 else (at_ : Int) + (textL ((D s).drop (at_ + 1 + i)) i acc).2) := by
  intro n
  induction n using Nat.strongRecOn with
  | ind n ih =>
    intro i acc hn hacc hle
    refine Ev.step (fun k => by rw [temporef23_quoted.l0]) ?_
    by_cases h : at_ + 1 + i < s.size
    · simp only [if_pos (show ((at_ + 1 + i : Nat) : Int) < (s.size : Int) by omega), if_pos (show (0 : Int) ≤ ((at_ + 1 + i : Nat) : Int) by omega), bt_nat s _ h]
      rw [step1 _ (by omega)]
      rw [show (D s).drop (at_ + 1 + i) = _ from drop_cons s _ h]
      have hsz : (⟨acc.toArray⟩ : ByteArray).size = acc.length := by simp [ByteArray.size]
      by_cases h34 : s[at_ + 1 + i].toNat = 34
      · simp only [if_pos (show (s[at_ + 1 + i].toNat : Int) = 34 by omega)]
        have hX : textL (s[at_ + 1 + i] :: (D s).drop (at_ + 1 + i + 1)) i acc = if 255 < acc.length then (⟨#[]⟩, 0) else (⟨acc.toArray⟩, (i : Int) + 2) := by rw [textL_cons, if_neg (by omega), if_pos h34]
        rw [hX, hsz]
        by_cases hl : 255 < acc.length
        · simp only [if_pos (show (acc.length : Int) > 255 by omega), if_pos hl]
          exact Ev.now _
        · simp only [if_neg (show ¬ (acc.length : Int) > 255 by omega), if_neg hl, if_neg (show ¬ ((i : Int) + 2) = 0 by omega)]
          rw [show ((at_ + 1 + i + 1 : Nat) : Int) = (at_ : Int) + ((i : Int) + 2) by omega]
          exact Ev.now _
      · simp only [if_neg (show ¬ (s[at_ + 1 + i].toNat : Int) = 34 by omega)]
        have key : Ev (fun k => temporef23_quoted.j1 k s ⟨acc.toArray⟩ ((at_ + 1 + i : Nat) : Int) (decide (s[at_ + 1 + i].toNat < 32 ∨ 126 < s[at_ + 1 + i].toNat)))
            ((textL (s[at_ + 1 + i] :: (D s).drop (at_ + 1 + i + 1)) i acc).1, if (textL (s[at_ + 1 + i] :: (D s).drop (at_ + 1 + i + 1)) i acc).2 = 0 then 0 else (at_ : Int) + (textL (s[at_ + 1 + i] :: (D s).drop (at_ + 1 + i + 1)) i acc).2) := by
          rw [textL_cons]
          refine Ev.step (fun k => by rw [temporef23_quoted.j1]) ?_
          by_cases hp : s[at_ + 1 + i].toNat < 32 ∨ 126 < s[at_ + 1 + i].toNat
          · simp only [decide_eq_true hp, ↓reduceIte, if_pos hp]
            exact Ev.now _
          · simp only [decide_eq_false hp, Bool.false_eq_true, ↓reduceIte, if_neg hp, if_neg h34, if_pos (show ((at_ + 1 + i : Nat) : Int) < (s.size : Int) by omega), if_pos (show (0 : Int) ≤ ((at_ + 1 + i : Nat) : Int) by omega), bt_nat s _ h]
            rw [step1 _ (by omega)]
            by_cases h92 : s[at_ + 1 + i].toNat = 92
            · simp only [if_pos (show (s[at_ + 1 + i].toNat : Int) = 92 by omega), if_pos h92]
              by_cases h2 : at_ + 1 + i + 1 < s.size
              · simp only [if_neg (show ¬ ((at_ + 1 + i + 1 : Nat) : Int) ≥ (s.size : Int) by omega), if_pos (show ((at_ + 1 + i + 1 : Nat) : Int) < (s.size : Int) by omega), if_pos (show (0 : Int) ≤ ((at_ + 1 + i + 1 : Nat) : Int) by omega), bt_nat s _ h2]
                rw [step1 _ (by omega), show (D s).drop (at_ + 1 + i + 1) = _ from drop_cons s _ h2]
                have hx : s.extract ((at_ + 1 + i + 1 : Nat) : Int).toNat ((at_ + 1 + i + 1 + 1 : Nat) : Int).toNat = ⟨#[s[at_ + 1 + i + 1]]⟩ := by rw [Int.toNat_natCast, Int.toNat_natCast]; exact ext_one s _ h2
                rw [hx, app_one, hsz]
                have hone : (⟨#[s[at_ + 1 + i + 1]]⟩ : ByteArray).size = 1 := rfl
                have hrec := ih (n - 2) (by omega) (i + 2) (acc ++ [s[at_ + 1 + i + 1]]) (by omega) (by simp; omega) (by omega)
                rw [show at_ + 1 + (i + 2) = at_ + 1 + i + 1 + 1 by omega] at hrec
                simp only [hone, if_pos (show ((at_ + 1 + i + 1 : Nat) : Int) ≤ ((at_ + 1 + i + 1 + 1 : Nat) : Int) by omega), if_pos (show ((at_ + 1 + i + 1 + 1 : Nat) : Int) ≤ (s.size : Int) by omega), if_pos (show acc.length + 1 ≤ 9223372036854775807 by omega)]
                by_cases hd : s[at_ + 1 + i + 1].toNat = 34
                · simp only [if_pos (show (s[at_ + 1 + i + 1].toNat : Int) = 34 by omega)]
                  rw [if_pos (.inl hd)]
                  exact hrec
                · simp only [if_neg (show ¬ (s[at_ + 1 + i + 1].toNat : Int) = 34 by omega)]
                  by_cases hd2 : s[at_ + 1 + i + 1].toNat = 92
                  · simp only [if_pos (show (s[at_ + 1 + i + 1].toNat : Int) = 92 by omega)]
                    rw [if_pos (.inr hd2)]
                    exact hrec
                  · simp only [if_neg (show ¬ (s[at_ + 1 + i + 1].toNat : Int) = 92 by omega)]
                    rw [if_neg (by omega)]
                    exact Ev.now _
              · simp only [if_pos (show ((at_ + 1 + i + 1 : Nat) : Int) ≥ (s.size : Int) by omega)]
                rw [show (D s).drop (at_ + 1 + i + 1) = [] from drop_end s _ (by omega)]
                exact Ev.now _
            · simp only [if_neg (show ¬ (s[at_ + 1 + i].toNat : Int) = 92 by omega), if_neg h92]
              have hx : s.extract ((at_ + 1 + i : Nat) : Int).toNat ((at_ + 1 + i + 1 : Nat) : Int).toNat = ⟨#[s[at_ + 1 + i]]⟩ := by rw [Int.toNat_natCast, Int.toNat_natCast]; exact ext_one s _ h
              rw [hx, app_one, hsz]
              have hone : (⟨#[s[at_ + 1 + i]]⟩ : ByteArray).size = 1 := rfl
              have hrec := ih (n - 1) (by omega) (i + 1) (acc ++ [s[at_ + 1 + i]]) (by omega) (by simp; omega) (by omega)
              rw [show at_ + 1 + (i + 1) = at_ + 1 + i + 1 by omega] at hrec
              simp only [hone, if_pos (show ((at_ + 1 + i : Nat) : Int) ≤ ((at_ + 1 + i + 1 : Nat) : Int) by omega), if_pos (show ((at_ + 1 + i + 1 : Nat) : Int) ≤ (s.size : Int) by omega), if_pos (show acc.length + 1 ≤ 9223372036854775807 by omega)]
              exact hrec
        by_cases h32 : s[at_ + 1 + i].toNat < 32
        · simp only [if_pos (show (s[at_ + 1 + i].toNat : Int) < 32 by omega)]
          rw [decide_eq_true (Or.inl h32)] at key
          exact key
        · simp only [if_neg (show ¬ (s[at_ + 1 + i].toNat : Int) < 32 by omega)]
          rw [show decide ((s[at_ + 1 + i].toNat : Int) > 126) = decide (s[at_ + 1 + i].toNat < 32 ∨ 126 < s[at_ + 1 + i].toNat) by rw [decide_eq_decide]; omega]
          exact key
    · simp only [if_neg (show ¬ ((at_ + 1 + i : Nat) : Int) < (s.size : Int) by omega)]
      rw [show (D s).drop (at_ + 1 + i) = [] from drop_end s _ (by omega)]
      exact Ev.now _
theorem quoted_ev (s : ByteArray) (hs : s.size ≤ 140737488351232) (at_ : Nat) (h : at_ < s.size) :
    Ev (fun k => temporef23_quoted.f k s at_) ((textL ((D s).drop (at_ + 1)) 0 []).1, if (textL ((D s).drop (at_ + 1)) 0 []).2 = 0 then 0 else (at_ : Int) + (textL ((D s).drop (at_ + 1)) 0 []).2) := by
  have h := quoted_loop s hs at_ s.size 0 [] (by omega) (by simp) (by omega)
  unfold temporef23_quoted.f
  rw [step1 _ (by omega)]
  exact h

theorem mk_eq (c : UInt8) : inS MK c = (c.toNat == 33 || c.toNat == 63) := by
  have := byte_all (p := fun c => inS MK c == (c.toNat == 33 || c.toNat == 63)) (by decide +kernel) c
  simpa using this
theorem sg_disj (c : UInt8) (h : inS SG c = true) : c.toNat ≠ 34 ∧ c.toNat ≠ 36 ∧ c.toNat ≠ 123 ∧ c.toNat ≠ 59 ∧ c.toNat ≠ 33 ∧ c.toNat ≠ 63 := by
  have := byte_all (p := fun c => !(inS SG c) || (c.toNat != 34 && (c.toNat != 36 && (c.toNat != 123 && (c.toNat != 59 && (c.toNat != 33 && c.toNat != 63)))))) (by decide +kernel) c
  simpa [h] using this

theorem sg_loop (c : UInt8) (i : Nat) (x z : Int) (y : ByteArray) (hi : i < 140737488355328) : ∀ (n j : Nat), 6 - j ≤ n → j ≤ 6 →
    Ev (fun k => temporef23_token.l0 k i (c.toNat : Int) SG j x y z) (if spnL (· != c) ((D SG).drop j) < ((D SG).drop j).length then (3 + ((j : Int) + spnL (· != c) ((D SG).drop j)), y, z, ((i + 1 : Nat) : Int)) else (0, ⟨#[]⟩, 0, 0)) := by
  have hsz : SG.size = 6 := rfl
  intro n
  induction n with
  | zero =>
    intro j hj hl
    refine Ev.step (fun k => by rw [temporef23_token.l0]) ?_
    simp only [if_neg (show ¬ (j : Int) < (SG.size : Int) by omega)]
    rw [show (D SG).drop j = [] from drop_end SG j (by omega)]
    exact Ev.now _
  | succ n ih =>
    intro j hj hl
    refine Ev.step (fun k => by rw [temporef23_token.l0]) ?_
    by_cases h : j < SG.size
    · simp only [if_pos (show (j : Int) < (SG.size : Int) by omega), if_pos (show (0 : Int) ≤ j by omega), bt_nat SG j h]
      obtain ⟨q, hq⟩ : ∃ q, (D SG).drop (j + 1) = q := ⟨_, rfl⟩
      have hdj : (D SG).drop j = SG[j] :: q := by rw [← hq]; exact drop_cons SG j h
      have h2 := ih (j + 1) (by omega) (by omega)
      rw [hq] at h2
      rw [step1 j (by omega), step1 i (by omega), hdj]
      by_cases hc : SG[j] = c
      · simp only [if_pos (show (SG[j].toNat : Int) = (c.toNat : Int) by rw [hc])]
        have h0 : spnL (· != c) (SG[j] :: q) = 0 := by rw [spnL_cons, if_neg (by simpa using hc)]
        rw [h0, wrap_id (by omega) (by omega), if_pos (by rw [List.length_cons]; omega), show (3 + ((j : Int) + ((0 : Nat) : Int)) : Int) = 3 + (j : Int) by omega]
        exact Ev.now _
      · have hn : ¬ (SG[j].toNat : Int) = (c.toNat : Int) := fun e => hc (UInt8.toNat_inj.1 (by omega))
        simp only [if_neg hn]
        have h1 : spnL (· != c) (SG[j] :: q) = spnL (· != c) q + 1 := by rw [spnL_cons, if_pos (by simpa using hc)]
        rw [h1, List.length_cons]
        by_cases hh : spnL (· != c) q < q.length
        · rw [if_pos hh] at h2
          rw [if_pos (Nat.succ_lt_succ hh), show (3 + ((j : Int) + ((spnL (· != c) q + 1 : Nat) : Int)) : Int) = 3 + (((j + 1 : Nat) : Int) + (spnL (· != c) q : Int)) by omega]
          exact h2
        · rw [if_neg hh] at h2
          rw [if_neg (fun e => hh (Nat.lt_of_succ_lt_succ e))]
          exact h2
    · simp only [if_neg (show ¬ (j : Int) < (SG.size : Int) by omega)]
      rw [show (D SG).drop j = [] from drop_end SG j (by omega)]
      exact Ev.now _

/-- The answer's token at place i. -/
def refS (c : UInt8) (q : List UInt8) (i : Nat) : Int × ByteArray × Int × Int :=
  if c.toNat = 34 then (1, (textL q 0 []).1, i, if (textL q 0 []).2 = 0 then 0 else (i : Int) + (textL q 0 []).2)
  else if (tokS c q).2.2 = 0 then (0, ⟨#[]⟩, 0, 0) else ((tokS c q).1, (tokS c q).2.1, i, (i : Int) + (tokS c q).2.2)

theorem ext_mid (s : ByteArray) (i n : Nat) : s.extract i (i + n) = ⟨(((D s).drop i).take n).toArray⟩ := D_inj (by rw [D_ext, D_mk, Nat.add_sub_cancel_left])

theorem token_ev (s : ByteArray) (hs : s.size ≤ 140737488351232) (i : Nat) (h : i < s.size) : Ev (fun k => temporef23_token.f k s i) (refS s[i] ((D s).drop (i + 1)) i) := by
  unfold temporef23_token.f
  rw [step1 i (by omega)]
  simp only [if_pos (show (0 : Int) ≤ i by omega), if_pos (show (i : Int) < (s.size : Int) by omega), if_pos (show (i : Int) ≤ ((i + 1 : Nat) : Int) by omega), if_pos (show ((i + 1 : Nat) : Int) ≤ (s.size : Int) by omega), bt_nat s i h, letter_eq, digit_eq, Option.bind_some]
  have hd : (D s).drop i = s[i] :: (D s).drop (i + 1) := drop_cons s i h
  have hl : ((D s).drop (i + 1)).length = s.size - (i + 1) := by rw [List.length_drop, D_len]
  have key : Ev (fun k => temporef23_token.j0 k s i (s[i].toNat : Int) (inS AN s[i]) 0 (s.extract (i : Int).toNat ((i + 1 : Nat) : Int).toNat) i) (refS s[i] ((D s).drop (i + 1)) i) := by
    refine Ev.step (fun k => by rw [temporef23_token.j0]) ?_
    unfold refS
    by_cases hA : inS AN s[i] = true
    · have h34 : s[i].toNat ≠ 34 := fun e => by rw [eq_of_nat (n := 34) e (by decide)] at hA; exact absurd hA (by decide)
      have hT : tokS s[i] ((D s).drop (i + 1)) = if spnL (inS SY) ((D s).drop i) ≤ 255 then (2, ⟨(((D s).drop i).take (spnL (inS SY) ((D s).drop i))).toArray⟩, (spnL (inS SY) ((D s).drop i) : Int)) else bad := by
        unfold tokS
        rw [if_pos hA, ← hd]
      have hpos : 1 ≤ spnL (inS SY) ((D s).drop i) := by rw [hd]; exact spnL_pos (by rw [sy_eq]; rw [an_eq] at hA; rcases Bool.or_eq_true_iff.1 hA with h | h <;> simp [h])
      have hle := spnL_le (inS SY) ((D s).drop i)
      rw [List.length_drop, D_len] at hle
      rw [if_neg h34, hT]
      simp only [if_pos hA]
      refine Ev.bind (run_ev s true hs i (by omega)) ?_
      simp only [↓reduceIte, if_pos (show (0 : Int) ≤ i by omega), if_pos (show (i : Int) ≤ ((i + spnL (inS SY) ((D s).drop i) : Nat) : Int) by omega), if_pos (show ((i + spnL (inS SY) ((D s).drop i) : Nat) : Int) ≤ (s.size : Int) by omega)]
      rw [wrap_id (by omega) (by omega)]
      by_cases h255 : spnL (inS SY) ((D s).drop i) ≤ 255
      · simp only [if_pos h255, if_neg (show ¬ ((i + spnL (inS SY) ((D s).drop i) : Nat) : Int) - (i : Int) > 255 by omega), if_neg (show ¬ ((spnL (inS SY) ((D s).drop i) : Int) = 0) by omega)]
        rw [Int.toNat_natCast, Int.toNat_natCast, ext_mid]
        rw [show ((i + spnL (inS SY) ((D s).drop i) : Nat) : Int) = (i : Int) + (spnL (inS SY) ((D s).drop i) : Int) by omega]
        exact Ev.now _
      · simp only [if_neg h255, if_pos (show ((i + spnL (inS SY) ((D s).drop i) : Nat) : Int) - (i : Int) > 255 by omega)]
        exact Ev.now _
    · simp only [if_neg hA]
      by_cases h34 : s[i].toNat = 34
      · simp only [if_pos h34, if_pos (show (s[i].toNat : Int) = 34 by omega)]
        exact Ev.bind (quoted_ev s hs i h) (Ev.now _)
      · simp only [if_neg h34, if_neg (show ¬ (s[i].toNat : Int) = 34 by omega)]
        by_cases h36 : s[i].toNat = 36
        · have hc : s[i] = 36 := eq_of_nat (n := 36) h36 (by decide)
          have hT : tokS s[i] ((D s).drop (i + 1)) = if 1 ≤ spnL (inS DG) ((D s).drop (i + 1)) ∧ spnL (inS DG) ((D s).drop (i + 1)) ≤ 3 then (9, ⟨(((D s).drop (i + 1)).take (spnL (inS DG) ((D s).drop (i + 1)))).toArray⟩, (spnL (inS DG) ((D s).drop (i + 1)) : Int) + 1) else bad := by
            rw [hc]; unfold tokS; rw [if_neg (by decide), if_neg (by decide), if_neg (by decide), if_neg (by decide), if_pos (by decide)]
          have hle := spnL_le (inS DG) ((D s).drop (i + 1))
          rw [hT]
          simp only [if_pos (show (s[i].toNat : Int) = 36 by omega), step1 i (show i < 9223372036854775000 by omega)]
          refine Ev.bind (run_ev s false hs (i + 1) (by omega)) ?_
          simp only [Bool.false_eq_true, ↓reduceIte, if_pos (show (0 : Int) ≤ ((i + 1 : Nat) : Int) by omega), if_pos (show ((i + 1 : Nat) : Int) ≤ ((i + 1 + spnL (inS DG) ((D s).drop (i + 1)) : Nat) : Int) by omega), if_pos (show ((i + 1 + spnL (inS DG) ((D s).drop (i + 1)) : Nat) : Int) ≤ (s.size : Int) by omega)]
          rw [Int.toNat_natCast, Int.toNat_natCast]
          have hsz : (s.extract (i + 1) (i + 1 + spnL (inS DG) ((D s).drop (i + 1)))).size = spnL (inS DG) ((D s).drop (i + 1)) := by rw [ByteArray.size_extract]; omega
          rw [hsz]
          by_cases h1 : 1 ≤ spnL (inS DG) ((D s).drop (i + 1))
          · by_cases h3 : spnL (inS DG) ((D s).drop (i + 1)) ≤ 3
            · simp only [if_pos (And.intro h1 h3), if_neg (show ¬ ((spnL (inS DG) ((D s).drop (i + 1)) : Int) < 1) by omega), if_neg (show ¬ ((spnL (inS DG) ((D s).drop (i + 1)) : Int) > 3) by omega), if_neg (show ¬ ((spnL (inS DG) ((D s).drop (i + 1)) : Int) + 1 = 0) by omega)]
              rw [ext_mid, show ((i + 1 + spnL (inS DG) ((D s).drop (i + 1)) : Nat) : Int) = (i : Int) + ((spnL (inS DG) ((D s).drop (i + 1)) : Int) + 1) by omega]
              exact Ev.now _
            · simp only [if_neg (fun e : 1 ≤ spnL (inS DG) ((D s).drop (i + 1)) ∧ spnL (inS DG) ((D s).drop (i + 1)) ≤ 3 => h3 e.2), if_neg (show ¬ ((spnL (inS DG) ((D s).drop (i + 1)) : Int) < 1) by omega), if_pos (show ((spnL (inS DG) ((D s).drop (i + 1)) : Int) > 3) by omega)]
              exact Ev.now _
          · simp only [if_neg (fun e : 1 ≤ spnL (inS DG) ((D s).drop (i + 1)) ∧ spnL (inS DG) ((D s).drop (i + 1)) ≤ 3 => h1 e.1), if_pos (show ((spnL (inS DG) ((D s).drop (i + 1)) : Int) < 1) by omega)]
            exact Ev.now _
        · simp only [if_neg (show ¬ (s[i].toNat : Int) = 36 by omega)]
          by_cases h123 : s[i].toNat = 123
          · have hc : s[i] = 123 := eq_of_nat (n := 123) h123 (by decide)
            have hT : tokS s[i] ((D s).drop (i + 1)) = if spnL (· != 125) ((D s).drop (i + 1)) < ((D s).drop (i + 1)).length then (10, ⟨(((D s).drop (i + 1)).take (spnL (· != 125) ((D s).drop (i + 1)))).toArray⟩, (spnL (· != 125) ((D s).drop (i + 1)) : Int) + 2) else bad := by
              rw [hc]; unfold tokS; rw [if_neg (by decide), if_neg (by decide), if_neg (by decide), if_neg (by decide), if_neg (by decide), if_pos (by decide)]
            have hle := spnL_le (· != 125) ((D s).drop (i + 1))
            have hsp : spnL (· != 125) ((D s).drop i) = spnL (· != 125) ((D s).drop (i + 1)) + 1 := by rw [hd, spnL_cons, if_pos (by rw [hc]; decide)]
            rw [hT]
            simp only [if_pos (show (s[i].toNat : Int) = 123 by omega), step1 i (show i < 9223372036854775000 by omega)]
            have hu := until_eq s 125 hs i (by omega)
            rw [hsp] at hu
            refine Ev.bind (g := fun k => temporef23_until.f k s i 125) hu ?_
            by_cases hh : spnL (· != 125) ((D s).drop (i + 1)) < ((D s).drop (i + 1)).length
            · simp only [if_pos hh, if_neg (show ¬ ((i + (spnL (· != 125) ((D s).drop (i + 1)) + 1) : Nat) : Int) = (s.size : Int) by omega), if_pos (show (0 : Int) ≤ ((i + 1 : Nat) : Int) by omega), if_pos (show ((i + 1 : Nat) : Int) ≤ ((i + (spnL (· != 125) ((D s).drop (i + 1)) + 1) : Nat) : Int) by omega), if_pos (show ((i + (spnL (· != 125) ((D s).drop (i + 1)) + 1) : Nat) : Int) ≤ (s.size : Int) by omega), if_neg (show ¬ ((spnL (· != 125) ((D s).drop (i + 1)) : Int) + 2 = 0) by omega)]
              rw [Int.toNat_natCast, Int.toNat_natCast, show i + (spnL (· != 125) ((D s).drop (i + 1)) + 1) = (i + 1) + spnL (· != 125) ((D s).drop (i + 1)) by omega, ext_mid, step1 _ (by omega),
                show ((i + 1 + spnL (· != 125) ((D s).drop (i + 1)) + 1 : Nat) : Int) = (i : Int) + ((spnL (· != 125) ((D s).drop (i + 1)) : Int) + 2) by omega]
              exact Ev.now _
            · simp only [if_neg hh, if_pos (show ((i + (spnL (· != 125) ((D s).drop (i + 1)) + 1) : Nat) : Int) = (s.size : Int) by omega)]
              exact Ev.now _
          · simp only [if_neg (show ¬ (s[i].toNat : Int) = 123 by omega)]
            by_cases h59 : s[i].toNat = 59
            · have hc : s[i] = 59 := eq_of_nat (n := 59) h59 (by decide)
              have hT : tokS s[i] ((D s).drop (i + 1)) = (10, ⟨(((D s).drop (i + 1)).take (spnL (· != 10) ((D s).drop (i + 1)))).toArray⟩, (spnL (· != 10) ((D s).drop (i + 1)) : Int) + 1) := by
                rw [hc]; unfold tokS; rw [if_neg (by decide), if_neg (by decide), if_neg (by decide), if_neg (by decide), if_neg (by decide), if_neg (by decide), if_pos (by decide)]
              have hle := spnL_le (· != 10) ((D s).drop (i + 1))
              have hsp : spnL (· != 10) ((D s).drop i) = spnL (· != 10) ((D s).drop (i + 1)) + 1 := by rw [hd, spnL_cons, if_pos (by rw [hc]; decide)]
              rw [hT]
              simp only [if_pos (show (s[i].toNat : Int) = 59 by omega), step1 i (show i < 9223372036854775000 by omega)]
              have hu := until_eq s 10 hs i (by omega)
              rw [hsp] at hu
              refine Ev.bind (g := fun k => temporef23_until.f k s i 10) hu ?_
              simp only [if_pos (show (0 : Int) ≤ ((i + 1 : Nat) : Int) by omega), if_pos (show ((i + 1 : Nat) : Int) ≤ ((i + (spnL (· != 10) ((D s).drop (i + 1)) + 1) : Nat) : Int) by omega), if_pos (show ((i + (spnL (· != 10) ((D s).drop (i + 1)) + 1) : Nat) : Int) ≤ (s.size : Int) by omega), if_neg (show ¬ ((spnL (· != 10) ((D s).drop (i + 1)) : Int) + 1 = 0) by omega)]
              rw [Int.toNat_natCast, Int.toNat_natCast, show i + (spnL (· != 10) ((D s).drop (i + 1)) + 1) = (i + 1) + spnL (· != 10) ((D s).drop (i + 1)) by omega, ext_mid,
                show ((i + 1 + spnL (· != 10) ((D s).drop (i + 1)) : Nat) : Int) = (i : Int) + ((spnL (· != 10) ((D s).drop (i + 1)) : Int) + 1) by omega]
              exact Ev.now _
            · simp only [if_neg (show ¬ (s[i].toNat : Int) = 59 by omega)]
              have keyM : Ev (fun k => temporef23_token.j1 k s i (s[i].toNat : Int) (inS MK s[i]) 0 (s.extract (i : Int).toNat ((i + 1 : Nat) : Int).toNat) i) (if (tokS s[i] ((D s).drop (i + 1))).2.2 = 0 then ((0 : Int), (⟨#[]⟩ : ByteArray), (0 : Int), (0 : Int)) else ((tokS s[i] ((D s).drop (i + 1))).1, (tokS s[i] ((D s).drop (i + 1))).2.1, (i : Int), (i : Int) + (tokS s[i] ((D s).drop (i + 1))).2.2)) := by
                refine Ev.step (fun k => by rw [temporef23_token.j1]) ?_
                by_cases hM : inS MK s[i] = true
                · have hS : ¬ inS SG s[i] = true := fun e => by have h1 := sg_disj _ e; rw [mk_eq] at hM; simp at hM; omega
                  have hT : tokS s[i] ((D s).drop (i + 1)) = ((11 : Int), (⟨(((D s).drop i).take (min (spnL (inS MK) ((D s).drop i)) 2)).toArray⟩ : ByteArray), ((min (spnL (inS MK) ((D s).drop i)) 2 : Nat) : Int)) := by
                    unfold tokS; rw [if_neg hA, if_neg hS, if_pos hM, ← hd]
                  have hsp : spnL (inS MK) ((D s).drop i) = spnL (inS MK) ((D s).drop (i + 1)) + 1 := by rw [hd, spnL_cons, if_pos hM]
                  have hfin : ∀ n : Nat, min (spnL (inS MK) ((D s).drop i)) 2 = n → 0 < n → Ev (fun _ => some ((11 : Int), s.extract i (i + n), (i : Int), ((i + n : Nat) : Int))) (if (tokS s[i] ((D s).drop (i + 1))).2.2 = 0 then ((0 : Int), (⟨#[]⟩ : ByteArray), (0 : Int), (0 : Int)) else ((tokS s[i] ((D s).drop (i + 1))).1, (tokS s[i] ((D s).drop (i + 1))).2.1, (i : Int), (i : Int) + (tokS s[i] ((D s).drop (i + 1))).2.2)) := by
                    intro n hn h0
                    rw [hT, hn, ext_mid]
                    simp only [if_neg (show ¬ ((n : Int) = 0) by omega)]
                    rw [show ((i + n : Nat) : Int) = (i : Int) + (n : Int) by omega]
                    exact Ev.now _
                  simp only [if_pos hM, step1 i (show i < 9223372036854775000 by omega)]
                  by_cases h1 : i + 1 < s.size
                  · simp only [if_pos (show ((i + 1 : Nat) : Int) < (s.size : Int) by omega), if_pos (show (0 : Int) ≤ ((i + 1 : Nat) : Int) by omega), bt_nat s (i + 1) h1, step1 (i + 1) (show i + 1 < 9223372036854775000 by omega)]
                    have hd1 : (D s).drop (i + 1) = s[i + 1] :: (D s).drop (i + 1 + 1) := drop_cons s (i + 1) h1
                    refine Ev.bind (in_eq MK s[i + 1] (by decide)) ?_
                    by_cases hx : inS MK s[i + 1] = true
                    · simp only [if_pos hx, if_pos (show (0 : Int) ≤ i by omega), if_pos (show (i : Int) ≤ ((i + 1 + 1 : Nat) : Int) by omega), if_pos (show ((i + 1 + 1 : Nat) : Int) ≤ (s.size : Int) by omega)]
                      rw [Int.toNat_natCast, Int.toNat_natCast]
                      have h3 : spnL (inS MK) ((D s).drop (i + 1)) = spnL (inS MK) ((D s).drop (i + 1 + 1)) + 1 := by rw [hd1, spnL_cons, if_pos hx]
                      exact hfin 2 (by omega) (by omega)
                    · simp only [if_neg hx, if_pos (show (0 : Int) ≤ i by omega), if_pos (show (i : Int) ≤ ((i + 1 : Nat) : Int) by omega), if_pos (show ((i + 1 : Nat) : Int) ≤ (s.size : Int) by omega)]
                      rw [Int.toNat_natCast, Int.toNat_natCast]
                      have h3 : spnL (inS MK) ((D s).drop (i + 1)) = 0 := by rw [hd1, spnL_cons, if_neg hx]
                      exact hfin 1 (by omega) (by omega)
                  · simp only [if_neg (show ¬ ((i + 1 : Nat) : Int) < (s.size : Int) by omega), if_pos (show (0 : Int) ≤ i by omega), if_pos (show (i : Int) ≤ ((i + 1 : Nat) : Int) by omega), if_pos (show ((i + 1 : Nat) : Int) ≤ (s.size : Int) by omega)]
                    rw [Int.toNat_natCast, Int.toNat_natCast]
                    have h3 : spnL (inS MK) ((D s).drop (i + 1)) = 0 := by rw [show (D s).drop (i + 1) = [] from drop_end s _ (by omega)]; rfl
                    exact hfin 1 (by omega) (by omega)
                · simp only [if_neg hM]
                  have hg := sg_loop s[i] i 0 i (s.extract (i : Int).toNat ((i + 1 : Nat) : Int).toNat) (by omega) 6 0 (by omega) (by omega)
                  rw [List.drop_zero, Int.toNat_natCast, Int.toNat_natCast, ext_one s i h] at hg
                  have hix := idx_eq (D SG) s[i]
                  have hhas := idx_has (D SG) s[i]
                  rw [Int.toNat_natCast, Int.toNat_natCast, ext_one s i h]
                  by_cases hS : inS SG s[i] = true
                  · have hin : spnL (· != s[i]) (D SG) < (D SG).length := by
                      rw [show (D SG).contains s[i] = true from hS, hix] at hhas
                      by_cases hlt : spnL (· != s[i]) (D SG) < (D SG).length
                      · exact hlt
                      · rw [if_neg hlt] at hhas; exact absurd hhas (by decide)
                    have hT : tokS s[i] ((D s).drop (i + 1)) = (3 + Lib.indexByte (D SG) s[i], ⟨#[s[i]]⟩, 1) := by unfold tokS; rw [if_neg hA, if_pos hS]
                    rw [if_pos hin] at hg hix
                    rw [hT, hix]
                    simp only [if_neg (show ¬ ((1 : Int) = 0) by decide)]
                    rw [show (3 + (((0 : Nat) : Int) + (spnL (· != s[i]) (D SG) : Int)) : Int) = 3 + (spnL (· != s[i]) (D SG) : Int) by omega] at hg
                    exact hg
                  · have hin : ¬ spnL (· != s[i]) (D SG) < (D SG).length := by
                      intro hlt
                      rw [show (D SG).contains s[i] = false from Bool.eq_false_iff.2 hS, hix, if_pos hlt] at hhas
                      simp at hhas
                    have hT : tokS s[i] ((D s).drop (i + 1)) = bad := by unfold tokS; rw [if_neg hA, if_neg hS, if_neg hM, if_neg h34, if_neg h36, if_neg h123, if_neg h59]
                    rw [if_neg hin] at hg
                    rw [hT]
                    exact hg
              by_cases h33 : s[i].toNat = 33
              · simp only [if_pos (show (s[i].toNat : Int) = 33 by omega)]
                rw [show ((s[i].toNat : Int) == 33) = inS MK s[i] by rw [mk_eq, h33]; rfl]
                exact keyM
              · simp only [if_neg (show ¬ (s[i].toNat : Int) = 33 by omega)]
                rw [show ((s[i].toNat : Int) == 63) = inS MK s[i] by rw [mk_eq, Bool.eq_iff_iff]; simp; omega]
                exact keyM
  by_cases hl2 : isL s[i] = true
  · simp only [hl2, ↓reduceIte]
    rw [an_eq, hl2, Bool.true_or] at key
    exact key
  · simp only [hl2, Bool.false_eq_true, ↓reduceIte]
    rw [an_eq, Bool.eq_false_iff.2 hl2, Bool.false_or] at key
    exact key
end Go.Proofs.Ytlpoglkddknedaa.P

namespace Go.Proofs.Ytlpoglkddknedaa.P
open Go.RowKit Go.Proofs.Ytlpoglkddknedaa.T Go.Proofs.Ytlpoglkddknedaa.H Go.Proofs.YtlpoglkddknedaaW.PrintWords Go.Proofs.YtlpoglkddknedaaW.PrintLast
set_option linter.unusedVariables false
set_option linter.unusedSimpArgs false

theorem textL_bound : ∀ (n : Nat) (l : List UInt8) (i : Nat) (acc : List UInt8), l.length ≤ n → (textL l i acc).2 = 0 ∨ ((i : Int) + 2 ≤ (textL l i acc).2 ∧ (textL l i acc).2 ≤ (i : Int) + l.length + 1) := by
  intro n
  induction n using Nat.strongRecOn with
  | ind n ih =>
    intro l i acc hl
    match l, hl with
    | [], _ => exact .inl rfl
    | c :: r, hl =>
      rw [textL_cons, List.length_cons]
      rw [List.length_cons] at hl
      by_cases hp : c.toNat < 32 ∨ 126 < c.toNat
      · rw [if_pos hp]; exact .inl rfl
      · rw [if_neg hp]
        by_cases h34 : c.toNat = 34
        · rw [if_pos h34]
          by_cases h255 : 255 < acc.length
          · rw [if_pos h255]; exact .inl rfl
          · rw [if_neg h255]; right; show (i : Int) + 2 ≤ (i : Int) + 2 ∧ (i : Int) + 2 ≤ _; omega
        · rw [if_neg h34]
          by_cases h92 : c.toNat = 92
          · rw [if_pos h92]
            match r, hl with
            | [], _ => exact .inl rfl
            | d :: r', hl =>
              rw [List.length_cons] at hl
              dsimp only
              by_cases hd : d.toNat = 34 ∨ d.toNat = 92
              · rw [if_pos hd]
                rcases ih (n - 2) (by omega) r' (i + 2) (acc ++ [d]) (by omega) with h | h
                · exact .inl h
                · right; rw [List.length_cons]; omega
              · rw [if_neg hd]; exact .inl rfl
          · rw [if_neg h92]
            rcases ih (n - 1) (by omega) r (i + 1) (acc ++ [c]) (by omega) with h | h
            · exact .inl h
            · right; omega

theorem tokS_bound (c : UInt8) (q : List UInt8) : 0 ≤ (tokS c q).2.2 ∧ (tokS c q).2.2 ≤ (q.length : Int) + 1 := by
  have h1 := spnL_le (inS SY) (c :: q)
  have h2 := spnL_le (inS MK) (c :: q)
  have h3 := spnL_le (inS DG) q
  have h4 := spnL_le (· != 125) q
  have h5 := spnL_le (· != 10) q
  have h6 := textL_bound q.length q 0 [] (Nat.le_refl _)
  rw [List.length_cons] at h1 h2
  unfold tokS
  split
  · split
    · show 0 ≤ (spnL (inS SY) (c :: q) : Int) ∧ (spnL (inS SY) (c :: q) : Int) ≤ _; omega
    · show (0 : Int) ≤ 0 ∧ (0 : Int) ≤ _; omega
  · split
    · show (0 : Int) ≤ 1 ∧ (1 : Int) ≤ _; omega
    · split
      · show (0 : Int) ≤ ((min (spnL (inS MK) (c :: q)) 2 : Nat) : Int) ∧ ((min (spnL (inS MK) (c :: q)) 2 : Nat) : Int) ≤ _; omega
      · split
        · show 0 ≤ (textL q 0 []).2 ∧ (textL q 0 []).2 ≤ _; omega
        · split
          · split
            · show (0 : Int) ≤ (spnL (inS DG) q : Int) + 1 ∧ (spnL (inS DG) q : Int) + 1 ≤ _; omega
            · show (0 : Int) ≤ 0 ∧ (0 : Int) ≤ _; omega
          · split
            · split
              · show (0 : Int) ≤ (spnL (· != 125) q : Int) + 2 ∧ (spnL (· != 125) q : Int) + 2 ≤ _; omega
              · show (0 : Int) ≤ 0 ∧ (0 : Int) ≤ _; omega
            · split
              · show (0 : Int) ≤ (spnL (· != 10) q : Int) + 1 ∧ (spnL (· != 10) q : Int) + 1 ≤ _; omega
              · show (0 : Int) ≤ 0 ∧ (0 : Int) ≤ _; omega

theorem ref_none (c : UInt8) (q : List UInt8) (i : Nat) (h : (tokS c q).2.2 = 0) : (refS c q i).2.2.2 = 0 := by
  unfold refS
  by_cases h34 : c.toNat = 34
  · have hc : c = 34 := eq_of_nat (n := 34) h34 (by decide)
    have hT : tokS c q = (1, (textL q 0 []).1, (textL q 0 []).2) := by
      rw [hc]; unfold tokS; rw [if_neg (by decide), if_neg (by decide), if_neg (by decide), if_pos (by decide)]
    rw [hT] at h
    rw [if_pos h34, if_pos h]
  · rw [if_neg h34, if_pos h]
theorem ref_some (c : UInt8) (q : List UInt8) (i : Nat) (h : (tokS c q).2.2 ≠ 0) : refS c q i = ((tokS c q).1, (tokS c q).2.1, (i : Int), (i : Int) + (tokS c q).2.2) := by
  unfold refS
  by_cases h34 : c.toNat = 34
  · have hc : c = 34 := eq_of_nat (n := 34) h34 (by decide)
    have hT : tokS c q = (1, (textL q 0 []).1, (textL q 0 []).2) := by
      rw [hc]; unfold tokS; rw [if_neg (by decide), if_neg (by decide), if_neg (by decide), if_pos (by decide)]
    rw [hT] at h ⊢
    rw [if_pos h34, if_neg h]
  · rw [if_neg h34, if_neg h]

def cv (x : S40) : S52 := ⟨x.f0, x.f1, x.f2⟩

theorem blanks (s : ByteArray) (hs : s.size ≤ 140737488351232) (acc : List S52) (r : List S52 × Int) : ∀ (n i : Nat), spnL (inS WS) ((D s).drop i) = n → i ≤ s.size →
    Ev (fun k => temporef23_tokens.l0 k s acc ((i + n : Nat) : Int)) r → Ev (fun k => temporef23_tokens.l0 k s acc (i : Int)) r := by
  intro n
  induction n with
  | zero => intro i _ _ h; exact h
  | succ n ih =>
    intro i hn hi h
    have hl := spnL_le (inS WS) ((D s).drop i)
    rw [List.length_drop, D_len] at hl
    have hlt : i < s.size := by omega
    have hd : (D s).drop i = s[i] :: (D s).drop (i + 1) := drop_cons s i hlt
    rw [hd, spnL_cons] at hn
    by_cases hw : inS WS s[i] = true
    · rw [if_pos hw] at hn
      have h2 := ih (i + 1) (by omega) (by omega) (by rw [show i + 1 + n = i + (n + 1) by omega]; exact h)
      refine Ev.step (fun k => by rw [temporef23_tokens.l0]) ?_
      simp only [if_pos (show (i : Int) < (s.size : Int) by omega), if_pos (show (0 : Int) ≤ i by omega), bt_nat s i hlt, step1 i (show i < 9223372036854775000 by omega)]
      refine Ev.bind (in_eq WS s[i] (by decide)) ?_
      simp only [if_pos hw]
      exact h2
    · rw [if_neg hw] at hn
      omega

theorem scan_both (s : ByteArray) (hs : s.size ≤ 1099511627776) : ∀ (n i : Nat), i ≤ s.size → s.size - i ≤ n →
    ∃ toks R, scanN (n + 1) s (i : Int) = some (toks, R) ∧ (R = -1 ∨ (0 ≤ R ∧ R < s.size)) ∧ toks.length ≤ s.size - i ∧
      ∀ acc : List S52, acc.length + (s.size - i) < 4398046511104 → Ev (fun k => temporef23_tokens.l0 k s acc (i : Int)) (acc ++ toks.map cv, R) := by
  intro n
  induction n with
  | zero =>
    intro i hi hn
    have he : i = s.size := by omega
    subst he
    refine ⟨[], -1, ?_, .inl rfl, Nat.zero_le _, fun acc _ => ?_⟩
    · rw [scanN, Int.toNat_natCast, show (⟨#[32, 9, 13, 10]⟩ : ByteArray) = WS from rfl, run_eq _ WS (by rw [ByteArray.size_extract]; omega) (by decide) ascii_WS, ext_all, show (D s).drop s.size = [] from drop_end s _ (Nat.le_refl _), Option.bind_some, spnL_nil, if_pos (by omega), if_pos (by omega)]
    · refine Ev.step (fun k => by rw [temporef23_tokens.l0]) ?_
      simp only [if_neg (show ¬ (s.size : Int) < (s.size : Int) by omega)]
      rw [List.map_nil, List.append_nil]
      exact Ev.now _
  | succ n ih =>
    intro i hi hn
    obtain ⟨m, hm⟩ : ∃ m, spnL (inS WS) ((D s).drop i) = m := ⟨_, rfl⟩
    have hle := spnL_le (inS WS) ((D s).drop i)
    rw [List.length_drop, D_len, hm] at hle
    have hrun : token_run.f (s.extract (i : Int).toNat s.size) (⟨#[32, 9, 13, 10]⟩ : ByteArray) = some (m : Int) := by
      rw [Int.toNat_natCast, show (⟨#[32, 9, 13, 10]⟩ : ByteArray) = WS from rfl, run_eq _ WS (by rw [ByteArray.size_extract]; omega) (by decide) ascii_WS, ext_all, hm]
    obtain ⟨p, hp⟩ : ∃ p, i + m = p := ⟨_, rfl⟩
    have hpi : (i : Int) + (m : Int) = (p : Int) := by omega
    have hps : p ≤ s.size := by omega
    rw [scanN, hrun, Option.bind_some, hpi, if_pos ⟨by omega, by omega⟩]
    have hB : ∀ (acc : List S52) (r : List S52 × Int), Ev (fun k => temporef23_tokens.l0 k s acc (p : Int)) r → Ev (fun k => temporef23_tokens.l0 k s acc (i : Int)) r := fun acc r h => blanks s (by omega) acc r m i hm hi (by rw [hp]; exact h)
    by_cases hend : p = s.size
    · rw [if_pos (by omega)]
      refine ⟨[], -1, rfl, .inl rfl, Nat.zero_le _, fun acc _ => hB acc _ ?_⟩
      refine Ev.step (fun k => by rw [temporef23_tokens.l0]) ?_
      simp only [if_neg (show ¬ (p : Int) < (s.size : Int) by omega)]
      rw [List.map_nil, List.append_nil]
      exact Ev.now _
    · rw [if_neg (by omega)]
      have hlt : p < s.size := by omega
      have hd : (D s).drop p = s[p] :: (D s).drop (p + 1) := drop_cons s p hlt
      have hnw : inS WS s[p] = false := by
        have hq := spnL_stop (inS WS) ((D s).drop i) (by rw [hm, List.length_drop, D_len]; omega)
        simp only [hm, List.getElem_drop, hp] at hq
        exact hq
      have hst : ∀ (acc : List S52) (r : List S52 × Int) (b : Bool), ((s[p].toNat : Int) = 37 → p ≠ 0 → b = (bt s ((p : Int) - 1) == 10)) → ((s[p].toNat : Int) = 37 → p = 0 → b = true) → ((s[p].toNat : Int) ≠ 37 → b = false) →
          Ev (fun k => temporef23_tokens.j1 k s acc (p : Int) b) r → Ev (fun k => temporef23_tokens.l0 k s acc (p : Int)) r := by
        intro acc r b hb1 hb2 hb3 h
        refine Ev.step (fun k => by rw [temporef23_tokens.l0]) ?_
        simp only [if_pos (show (p : Int) < (s.size : Int) by omega), if_pos (show (0 : Int) ≤ p by omega), bt_nat s p hlt]
        refine Ev.bind (in_eq WS s[p] (by decide)) ?_
        simp only [hnw, Bool.false_eq_true, ↓reduceIte]
        by_cases h37 : (s[p].toNat : Int) = 37
        · simp only [if_pos h37]
          by_cases h0 : p = 0
          · simp only [if_pos (show (p : Int) = 0 by omega)]
            rw [hb2 h37 h0] at h
            exact h
          · simp only [if_neg (show ¬ (p : Int) = 0 by omega)]
            rw [wrap_id (by omega) (by omega)]
            simp only [if_pos (show (0 : Int) ≤ (p : Int) - 1 by omega), if_pos (show (p : Int) - 1 < (s.size : Int) by omega)]
            rw [hb1 h37 h0] at h
            exact h
        · simp only [if_neg h37]
          rw [hb3 h37] at h
          exact h
      rw [bt_nat s p hlt]
      by_cases hln : (s[p].toNat : Int) = 37 ∧ ((p : Int) = 0 ∨ bt s ((p : Int) - 1) = 10)
      · rw [if_pos hln]
        unfold strings_IndexByte.f
        rw [Option.bind_some, show (s.extract (p : Int).toNat s.size).data.toList = (D s).drop p from by rw [Int.toNat_natCast]; exact ext_all s p]
        have hix := idx_eq ((D s).drop p) 10
        rw [show (Int.toNat 10).toUInt8 = (10 : UInt8) from rfl, hix]
        have h1 : spnL (· != 10) ((D s).drop p) = spnL (· != 10) ((D s).drop (p + 1)) + 1 := by
          rw [hd, spnL_cons, if_pos (by rw [eq_of_nat (n := 37) (c := s[p]) (by omega) (by decide)]; decide)]
        have hlu := spnL_le (· != 10) ((D s).drop p)
        rw [List.length_drop, D_len] at hlu ⊢
        have hu := until_eq s 10 (by omega) p (by omega)
        have hj : ∀ (acc : List S52) (r : List S52 × Int), Ev (fun k => temporef23_tokens.l0 k s acc ((p + spnL (· != 10) ((D s).drop p) : Nat) : Int)) r → Ev (fun k => temporef23_tokens.l0 k s acc (p : Int)) r := by
          intro acc r h
          refine hst acc r true (fun h37 h0 => ?_) (fun _ _ => rfl) (fun h => absurd hln.1 h) ?_
          · rcases hln.2 with h | h
            · omega
            · rw [h]; rfl
          · refine Ev.step (fun k => by rw [temporef23_tokens.j1]) ?_
            simp only [↓reduceIte]
            exact Ev.bind (g := fun k => temporef23_until.f k s p 10) hu h
        by_cases hh : spnL (· != 10) ((D s).drop p) < s.size - p
        · rw [if_pos hh, if_pos (by omega), if_pos ⟨by omega, by omega⟩]
          obtain ⟨toks, R, e1, e2, e3, e4⟩ := ih (p + spnL (· != 10) ((D s).drop p)) (by omega) (by omega)
          refine ⟨toks, R, ?_, e2, by omega, fun acc ha => hB acc _ (hj acc _ (e4 acc (by omega)))⟩
          rw [← e1, show (p : Int) + (spnL (· != 10) ((D s).drop p) : Int) = ((p + spnL (· != 10) ((D s).drop p) : Nat) : Int) by omega]
        · rw [if_neg hh, if_neg (by omega)]
          refine ⟨[], -1, rfl, .inl rfl, Nat.zero_le _, fun acc _ => hB acc _ (hj acc _ ?_)⟩
          refine Ev.step (fun k => by rw [temporef23_tokens.l0]) ?_
          simp only [if_neg (show ¬ ((p + spnL (· != 10) ((D s).drop p) : Nat) : Int) < (s.size : Int) by omega)]
          rw [List.map_nil, List.append_nil]
          exact Ev.now _
      · rw [if_neg hln]
        have hx : s.extract (p : Int).toNat s.size = s.extract p s.size := by rw [Int.toNat_natCast]
        have hxs : (s.extract p s.size).size = s.size - p := by rw [ByteArray.size_extract]; omega
        have h0 : (s.extract p s.size)[0]'(by omega) = s[p] := by
          have h3 : (D (s.extract p s.size))[0]'(by rw [D_len]; omega) = s[p] := by
            have h4 := ext_all s p
            rw [hd] at h4
            simp only [h4, List.getElem_cons_zero]
          exact h3
        have h1 : (D (s.extract p s.size)).drop 1 = (D s).drop (p + 1) := by rw [ext_all, List.drop_drop]
        have hone := one_eq (s.extract p s.size) (by omega) (by omega)
        rw [h0, h1] at hone
        rw [hx, hone, Option.bind_some]
        have hb := tokS_bound s[p] ((D s).drop (p + 1))
        rw [List.length_drop, D_len] at hb
        have htk := token_ev s (by omega) p hlt
        have hj : ∀ (acc : List S52) (r : List S52 × Int), Ev (fun k => temporef23_tokens.j1 k s acc (p : Int) false) r → Ev (fun k => temporef23_tokens.l0 k s acc (p : Int)) r := by
          intro acc r h
          refine hst acc r false (fun h37 h0 => ?_) (fun h37 h0 => absurd ⟨h37, .inl (by omega)⟩ hln) (fun _ => rfl) h
          symm
          rw [beq_eq_false_iff_ne]
          exact fun e => hln ⟨h37, .inr e⟩
        by_cases hz : (tokS s[p] ((D s).drop (p + 1))).2.2 = 0
        · rw [if_neg (by omega)]
          refine ⟨[], (p : Int), rfl, .inr ⟨by omega, by omega⟩, Nat.zero_le _, fun acc _ => hB acc _ (hj acc _ ?_)⟩
          refine Ev.step (fun k => by rw [temporef23_tokens.j1]) ?_
          simp only [Bool.false_eq_true, ↓reduceIte]
          refine Ev.bind htk ?_
          simp only [if_pos (ref_none s[p] ((D s).drop (p + 1)) p hz)]
          rw [List.map_nil, List.append_nil]
          exact Ev.now _
        · rw [if_pos (by omega), if_pos (by omega)]
          obtain ⟨e, he⟩ : ∃ e : Nat, (tokS s[p] ((D s).drop (p + 1))).2.2 = (e : Int) := ⟨_, (Int.toNat_of_nonneg hb.1).symm⟩
          obtain ⟨toks, R, e1, e2, e3, e4⟩ := ih (p + e) (by omega) (by omega)
          rw [he, show (p : Int) + (e : Int) = ((p + e : Nat) : Int) by omega, e1, Option.map_some]
          refine ⟨_, _, rfl, e2, by simp only [List.length_cons]; omega, fun acc ha => hB acc _ (hj acc _ ?_)⟩
          refine Ev.step (fun k => by rw [temporef23_tokens.j1]) ?_
          simp only [Bool.false_eq_true, ↓reduceIte]
          refine Ev.bind htk ?_
          rw [ref_some s[p] ((D s).drop (p + 1)) p hz]
          simp only [if_neg (show ¬ ((p : Int) + (tokS s[p] ((D s).drop (p + 1))).2.2 = 0) by omega), if_pos (show acc.length < 4398046511104 by omega)]
          rw [he, show (p : Int) + (e : Int) = ((p + e : Nat) : Int) by omega]
          have h5 := e4 (acc ++ [⟨(tokS s[p] ((D s).drop (p + 1))).1, (tokS s[p] ((D s).drop (p + 1))).2.1, (p : Int)⟩]) (by simp only [List.length_append, List.length_cons, List.length_nil]; omega)
          rw [List.map_cons, show cv ⟨(tokS s[p] ((D s).drop (p + 1))).1, (tokS s[p] ((D s).drop (p + 1))).2.1, (p : Int)⟩ = (⟨(tokS s[p] ((D s).drop (p + 1))).1, (tokS s[p] ((D s).drop (p + 1))).2.1, (p : Int)⟩ : S52) from rfl]
          rw [List.append_assoc, List.singleton_append] at h5
          exact h5
end Go.Proofs.Ytlpoglkddknedaa.P

namespace Go.Proofs.Ytlpoglkddknedaa.P
open Go.RowKit Go.Proofs.Ytlpoglkddknedaa.T Go.Proofs.Ytlpoglkddknedaa.H Go.Proofs.YtlpoglkddknedaaW.PrintWords Go.Proofs.YtlpoglkddknedaaW.PrintLast
set_option linter.unusedVariables false
set_option linter.unusedSimpArgs false

theorem quote_loop (s : ByteArray) (hs : s.size ≤ 1099511627776) : ∀ (n j : Nat), s.size - j ≤ n → j ≤ s.size →
    Ev (fun k => temporef23_Quote.l0 k s ⟨(34 :: quoteL ((D s).take j)).toArray⟩ (j : Int)) (if ((D s).drop j).all prnt = true then (if 255 < s.size then (⟨#[]⟩, 9) else (⟨(34 :: quoteL (D s) ++ [34]).toArray⟩, 0)) else (⟨#[]⟩, 8)) := by
  intro n
  induction n with
  | zero =>
    intro j hj hl
    have he : j = s.size := by omega
    subst he
    refine Ev.step (fun k => by rw [temporef23_Quote.l0]) ?_
    simp only [if_neg (show ¬ (s.size : Int) < (s.size : Int) by omega)]
    rw [show (D s).drop s.size = [] from drop_end s _ (Nat.le_refl _), show (D s).take s.size = D s by rw [← D_len, List.take_length]]
    have hq := quoteL_le (D s)
    rw [D_len] at hq
    have hsz : (⟨(34 :: quoteL (D s)).toArray⟩ : ByteArray).size = (quoteL (D s)).length + 1 := by simp [ByteArray.size]
    rw [hsz]
    simp only [List.all_nil, ↓reduceIte]
    by_cases h255 : 255 < s.size
    · simp only [if_pos (show (s.size : Int) > 255 by omega), if_pos h255]
      exact Ev.now _
    · simp only [if_neg (show ¬ (s.size : Int) > 255 by omega), if_neg h255, if_pos (show (quoteL (D s)).length + 1 + 1 ≤ 9223372036854775807 by omega)]
      rw [app_one]
      exact Ev.now _
  | succ n ih =>
    intro j hj hl
    by_cases h : j < s.size
    · refine Ev.step (fun k => by rw [temporef23_Quote.l0]) ?_
      have hd : (D s).drop j = s[j] :: (D s).drop (j + 1) := drop_cons s j h
      have ht : (D s).take (j + 1) = (D s).take j ++ [s[j]] := take_snoc s j h
      have h2 := ih (j + 1) (by omega) (by omega)
      rw [ht, quoteL_snoc] at h2
      have hq := quoteL_le ((D s).take j)
      rw [List.length_take, D_len] at hq
      obtain ⟨Q, hQ⟩ : ∃ Q, quoteL ((D s).take j) = Q := ⟨_, rfl⟩
      rw [hQ] at hq h2 ⊢
      have hsz : (⟨(34 :: Q).toArray⟩ : ByteArray).size = Q.length + 1 := by simp [ByteArray.size]
      have hsz2 : (⟨(34 :: Q ++ [92]).toArray⟩ : ByteArray).size = Q.length + 2 := by simp [ByteArray.size]
      have hone : (⟨#[s[j]]⟩ : ByteArray).size = 1 := rfl
      have hx : s.extract (j : Int).toNat ((j + 1 : Nat) : Int).toNat = ⟨#[s[j]]⟩ := by rw [Int.toNat_natCast, Int.toNat_natCast]; exact ext_one s j h
      have key : Ev (fun k => temporef23_Quote.j1 k s ⟨(34 :: Q).toArray⟩ (j : Int) (!prnt s[j])) (if ((D s).drop j).all prnt = true then (if 255 < s.size then (⟨#[]⟩, 9) else (⟨(34 :: quoteL (D s) ++ [34]).toArray⟩, 0)) else (⟨#[]⟩, 8)) := by
        refine Ev.step (fun k => by rw [temporef23_Quote.j1]) ?_
        rw [hd, List.all_cons]
        by_cases hp : prnt s[j] = true
        · rw [hp, Bool.true_and]
          simp only [Bool.not_true, Bool.false_eq_true, ↓reduceIte, if_pos (show (0 : Int) ≤ j by omega), if_pos (show (j : Int) < (s.size : Int) by omega), bt_nat s j h, step1 j (show j < 9223372036854775000 by omega), hx, app_one, hsz, hsz2, hone, if_pos (show (j : Int) ≤ ((j + 1 : Nat) : Int) by omega), if_pos (show ((j + 1 : Nat) : Int) ≤ (s.size : Int) by omega), if_pos (show Q.length + 1 + 1 ≤ 9223372036854775807 by omega), if_pos (show Q.length + 2 + 1 ≤ 9223372036854775807 by omega)]
          by_cases h34 : s[j].toNat = 34
          · simp only [if_pos (show (s[j].toNat : Int) = 34 by omega)]
            rw [if_pos (.inl h34)] at h2
            rw [show (34 :: Q ++ [92] ++ [s[j]] : List UInt8) = 34 :: (Q ++ [92, s[j]]) by simp]
            exact h2
          · simp only [if_neg (show ¬ (s[j].toNat : Int) = 34 by omega)]
            by_cases h92 : s[j].toNat = 92
            · simp only [if_pos (show (s[j].toNat : Int) = 92 by omega)]
              rw [if_pos (.inr h92)] at h2
              rw [show (34 :: Q ++ [92] ++ [s[j]] : List UInt8) = 34 :: (Q ++ [92, s[j]]) by simp]
              exact h2
            · simp only [if_neg (show ¬ (s[j].toNat : Int) = 92 by omega)]
              rw [if_neg (by omega)] at h2
              rw [show (34 :: Q ++ [s[j]] : List UInt8) = 34 :: (Q ++ [s[j]]) by simp]
              exact h2
        · simp only [Bool.not_eq_true] at hp
          rw [hp, Bool.false_and]
          simp only [Bool.not_false, Bool.false_eq_true, ↓reduceIte]
          exact Ev.now _
      simp only [if_pos (show (j : Int) < (s.size : Int) by omega), if_pos (show (0 : Int) ≤ j by omega), bt_nat s j h]
      by_cases h32 : s[j].toNat < 32
      · simp only [if_pos (show (s[j].toNat : Int) < 32 by omega)]
        rw [show (!prnt s[j]) = true by unfold prnt; simp; omega] at key
        exact key
      · simp only [if_neg (show ¬ (s[j].toNat : Int) < 32 by omega)]
        rw [show (!prnt s[j]) = decide ((s[j].toNat : Int) > 126) by unfold prnt; rw [Bool.eq_iff_iff]; simp; omega] at key
        exact key
    · exact (by
        have h2 := ih j (by omega) hl
        exact h2)
theorem quote_ev (s : ByteArray) (hs : s.size ≤ 1099511627776) : Ev (fun k => temporef23_Quote.f k s) (quoteF s) := by
  have h := quote_loop s hs s.size 0 (by omega) (by omega)
  rw [List.take_zero, List.drop_zero] at h
  exact h

/-! ### symbols -/
def isS (s : ByteArray) : Prop := ∃ h : 0 < s.size, inS AN s[0] = true ∧ spnL (inS SY) (D s) = s.size ∧ s.size ≤ 255
theorem isF_eq (s : ByteArray) (hs : s.size ≤ 1099511627776) : (isS s ∧ token_Is.f s = some true) ∨ (¬ isS s ∧ token_Is.f s = some false) := by
  unfold token_Is.f
  rw [show (⟨#[65, 66, 67, 68, 69, 70, 71, 72, 73, 74, 75, 76, 77, 78, 79, 80, 81, 82, 83, 84, 85, 86, 87, 88, 89, 90, 97, 98, 99, 100, 101, 102, 103, 104, 105, 106, 107, 108, 109, 110, 111, 112, 113, 114, 115, 116, 117, 118, 119, 120, 121, 122, 48, 49, 50, 51, 52, 53, 54, 55, 56, 57]⟩ : ByteArray) = AN from rfl,
    show (⟨#[65, 66, 67, 68, 69, 70, 71, 72, 73, 74, 75, 76, 77, 78, 79, 80, 81, 82, 83, 84, 85, 86, 87, 88, 89, 90, 97, 98, 99, 100, 101, 102, 103, 104, 105, 106, 107, 108, 109, 110, 111, 112, 113, 114, 115, 116, 117, 118, 119, 120, 121, 122, 48, 49, 50, 51, 52, 53, 54, 55, 56, 57, 95, 43, 35, 61, 58, 45, 47]⟩ : ByteArray) = SY from rfl, toList_D]
  by_cases h0 : 0 < s.size
  · have hne : ¬ D s = [] := fun e => by have := D_len s; rw [e] at this; simp at this; omega
    rw [if_neg hne, if_pos (by omega), show bt s 0 = (s[0].toNat : Int) from bt_nat s 0 h0, has_eq, run_eq s SY (by omega) (by decide) ascii_SY]
    simp only [Option.bind_some]
    by_cases hA : inS AN s[0] = true
    · rw [if_pos hA]
      by_cases hS : spnL (inS SY) (D s) = s.size
      · rw [if_pos (by omega)]
        by_cases h255 : s.size ≤ 255
        · left; exact ⟨⟨h0, hA, hS, h255⟩, by rw [decide_eq_true (by omega)]⟩
        · right; exact ⟨fun ⟨_, _, _, h⟩ => h255 h, by rw [decide_eq_false (by omega)]⟩
      · rw [if_neg (by omega)]
        right; exact ⟨fun ⟨_, _, h, _⟩ => hS h, rfl⟩
    · rw [if_neg hA]
      right; exact ⟨fun ⟨_, h, _⟩ => hA h, rfl⟩
  · have hne : D s = [] := List.eq_nil_of_length_eq_zero (by rw [D_len]; omega)
    rw [if_pos hne]
    right; exact ⟨fun ⟨h, _⟩ => h0 h, rfl⟩

theorem tokS_two (c : UInt8) (q : List UInt8) (h : (tokS c q).1 = 2) : inS AN c = true ∧ tokS c q = (2, ⟨((c :: q).take (spnL (inS SY) (c :: q))).toArray⟩, (spnL (inS SY) (c :: q) : Int)) ∧ spnL (inS SY) (c :: q) ≤ 255 := by
  have hg := Lib.indexByte_ge (D SG) c
  have hs := idx_has (D SG) c
  unfold tokS at h ⊢
  by_cases hA : inS AN c = true
  · rw [if_pos hA] at h ⊢
    by_cases h255 : spnL (inS SY) (c :: q) ≤ 255
    · rw [if_pos h255]; exact ⟨hA, rfl, h255⟩
    · rw [if_neg h255] at h; exact absurd h (by decide)
  · exfalso
    rw [if_neg hA] at h
    by_cases hS : inS SG c = true
    · rw [if_pos hS] at h
      rw [show (D SG).contains c = true from hS] at hs
      have h2 := of_decide_eq_true hs
      have h3 : 3 + Lib.indexByte (D SG) c = 2 := h
      omega
    · rw [if_neg hS] at h
      split at h
      · exact absurd (show (11 : Int) = 2 from h) (by decide)
      · split at h
        · exact absurd (show (1 : Int) = 2 from h) (by decide)
        · split at h
          · split at h
            · exact absurd (show (9 : Int) = 2 from h) (by decide)
            · exact absurd (show (0 : Int) = 2 from h) (by decide)
          · split at h
            · split at h
              · exact absurd (show (10 : Int) = 2 from h) (by decide)
              · exact absurd (show (0 : Int) = 2 from h) (by decide)
            · split at h
              · exact absurd (show (10 : Int) = 2 from h) (by decide)
              · exact absurd (show (0 : Int) = 2 from h) (by decide)

/-- What scanN does at place i. -/
theorem scan_step (s : ByteArray) (hs : s.size ≤ 1099511627776) (k i : Nat) (hi : i ≤ s.size) (toks : List S40) (R : Int) (h : scanN (k + 1) s (i : Int) = some (toks, R)) :
    (toks = [] ∨ (∃ j : Nat, i < j ∧ j ≤ s.size ∧ scanN k s (j : Int) = some (toks, R)) ∨
      (∃ (p : Nat) (hp : p < s.size) (e : Nat) (rest : List S40), i ≤ p ∧ 0 < e ∧ (tokS s[p] ((D s).drop (p + 1))).2.2 = (e : Int) ∧ p + e ≤ s.size ∧ toks = ⟨(tokS s[p] ((D s).drop (p + 1))).1, (tokS s[p] ((D s).drop (p + 1))).2.1, (p : Int)⟩ :: rest ∧ scanN k s ((p + e : Nat) : Int) = some (rest, R))) := by
  obtain ⟨m, hm⟩ : ∃ m, spnL (inS WS) ((D s).drop i) = m := ⟨_, rfl⟩
  have hle := spnL_le (inS WS) ((D s).drop i)
  rw [List.length_drop, D_len, hm] at hle
  have hrun : token_run.f (s.extract (i : Int).toNat s.size) (⟨#[32, 9, 13, 10]⟩ : ByteArray) = some (m : Int) := by
    rw [Int.toNat_natCast, show (⟨#[32, 9, 13, 10]⟩ : ByteArray) = WS from rfl, run_eq _ WS (by rw [ByteArray.size_extract]; omega) (by decide) ascii_WS, ext_all, hm]
  obtain ⟨p, hp⟩ : ∃ p, i + m = p := ⟨_, rfl⟩
  have hpi : (i : Int) + (m : Int) = (p : Int) := by omega
  rw [scanN, hrun, Option.bind_some, hpi, if_pos ⟨by omega, by omega⟩] at h
  by_cases hend : p = s.size
  · rw [if_pos (by omega)] at h
    exact .inl (Prod.mk.inj (Option.some.inj h)).1.symm
  · rw [if_neg (by omega)] at h
    have hlt : p < s.size := by omega
    have hd : (D s).drop p = s[p] :: (D s).drop (p + 1) := drop_cons s p hlt
    split at h
    · rename_i hln
      unfold strings_IndexByte.f at h
      rw [Option.bind_some] at h
      split at h
      · split at h
        · rename_i hx
          right; left
          obtain ⟨x, hxe⟩ : ∃ x : Nat, Lib.indexByte (s.extract (p : Int).toNat s.size).data.toList (Int.toNat 10).toUInt8 = (x : Int) := ⟨_, (Int.toNat_of_nonneg (by omega)).symm⟩
          rw [hxe] at hx h
          exact ⟨p + x, by omega, by omega, by rw [show ((p + x : Nat) : Int) = (p : Int) + (x : Int) by omega]; exact h⟩
        · cases h
      · exact .inl (Prod.mk.inj (Option.some.inj h)).1.symm
    · have hx : s.extract (p : Int).toNat s.size = s.extract p s.size := by rw [Int.toNat_natCast]
      have hxs : (s.extract p s.size).size = s.size - p := by rw [ByteArray.size_extract]; omega
      have h0 : (s.extract p s.size)[0]'(by omega) = s[p] := by
        have h3 : (D (s.extract p s.size))[0]'(by rw [D_len]; omega) = s[p] := by
          have h4 := ext_all s p
          rw [hd] at h4
          simp only [h4, List.getElem_cons_zero]
        exact h3
      have h1 : (D (s.extract p s.size)).drop 1 = (D s).drop (p + 1) := by rw [ext_all, List.drop_drop]
      have hone := one_eq (s.extract p s.size) (by omega) (by omega)
      rw [h0, h1] at hone
      rw [hx, hone, Option.bind_some] at h
      have hb := tokS_bound s[p] ((D s).drop (p + 1))
      rw [List.length_drop, D_len] at hb
      split at h
      · split at h
        · obtain ⟨⟨r1, r2⟩, hr, he⟩ := Option.map_eq_some_iff.1 h
          obtain ⟨e, hee⟩ : ∃ e : Nat, (tokS s[p] ((D s).drop (p + 1))).2.2 = (e : Int) := ⟨_, (Int.toNat_of_nonneg hb.1).symm⟩
          obtain ⟨he1, he2⟩ := Prod.mk.inj he
          right; right
          refine ⟨p, hlt, e, r1, by omega, by omega, hee, by omega, he1.symm, ?_⟩
          rw [show ((p + e : Nat) : Int) = (p : Int) + (e : Int) by omega, ← hee, hr]
          exact congrArg some (by rw [← he2])
        · cases h
      · exact .inl (Prod.mk.inj (Option.some.inj h)).1.symm

theorem two_size (s : ByteArray) (hs : s.size ≤ 1099511627776) : ∀ (k i : Nat) (toks : List S40) (R : Int), i ≤ s.size → scanN k s (i : Int) = some (toks, R) → ∀ x ∈ toks, x.f0 = 2 → x.f1.size + i ≤ s.size := by
  intro k
  induction k with
  | zero => intro i toks R _ h; simp [scanN] at h
  | succ k ih =>
    intro i toks R hi h x hx h2
    rcases scan_step s hs k i hi toks R h with h | ⟨j, hij, hj, h⟩ | ⟨p, hp, e, rest, hip, he0, he, hpe, ht, hr⟩
    · rw [h] at hx; cases hx
    · have := ih j toks R hj h x hx h2; omega
    · rw [ht] at hx
      rcases List.mem_cons.1 hx with rfl | hx
      · obtain ⟨_, hT, _⟩ := tokS_two _ _ h2
        have hl := spnL_le (inS SY) (s[p] :: (D s).drop (p + 1))
        rw [hT] at he ⊢
        have : (⟨((s[p] :: (D s).drop (p + 1)).take (spnL (inS SY) (s[p] :: (D s).drop (p + 1)))).toArray⟩ : ByteArray).size = spnL (inS SY) (s[p] :: (D s).drop (p + 1)) := by
          show (Array.size _) = _
          rw [List.size_toArray, List.length_take]
          omega
        show (⟨((s[p] :: (D s).drop (p + 1)).take (spnL (inS SY) (s[p] :: (D s).drop (p + 1)))).toArray⟩ : ByteArray).size + i ≤ s.size
        rw [this]
        have he' : ((spnL (inS SY) (s[p] :: (D s).drop (p + 1)) : Nat) : Int) = (e : Int) := he
        omega
      · have := ih (p + e) rest R (by omega) hr x hx h2; omega

theorem an_ws (c : UInt8) (h : inS AN c = true) : inS WS c = false ∧ c.toNat ≠ 37 := by
  have := byte_all (p := fun c => !(inS AN c) || (!(inS WS c) && c.toNat != 37)) (by decide +kernel) c
  simpa [h] using this

theorem is_scan (s : ByteArray) (hs : s.size ≤ 1099511627776) (k : Nat) (toks : List S40) (R : Int) (h : scanN (k + 2) s ((0 : Nat) : Int) = some (toks, R)) : isS s ↔ (R < 0 ∧ ∃ x, toks = [x] ∧ x.f0 = 2 ∧ x.f1 = s) := by
  constructor
  · rintro ⟨h0, hA, hS, h255⟩
    have hd : D s = s[0] :: (D s).drop 1 := D_cons s h0
    obtain ⟨hw, h37⟩ := an_ws _ hA
    have hx : s.extract ((0 : Nat) : Int).toNat s.size = s := D_inj (by rw [show ((0 : Nat) : Int).toNat = 0 from rfl, ext_all, List.drop_zero])
    have hrun : token_run.f (s.extract ((0 : Nat) : Int).toNat s.size) (⟨#[32, 9, 13, 10]⟩ : ByteArray) = some ((0 : Nat) : Int) := by
      rw [hx, show (⟨#[32, 9, 13, 10]⟩ : ByteArray) = WS from rfl, run_eq _ WS (by omega) (by decide) ascii_WS, hd, spnL_cons, if_neg (by rw [hw]; decide)]
    have hT : tokS s[0] ((D s).drop 1) = (2, s, (s.size : Int)) := by
      unfold tokS
      rw [if_pos hA, ← hd, hS, if_pos h255]
      congr 2
      exact D_inj (by rw [D_mk, ← D_len, List.take_length])
    rw [scanN, hrun, Option.bind_some, show (((0 : Nat) : Int) + ((0 : Nat) : Int)) = ((0 : Nat) : Int) from rfl, if_pos ⟨by omega, by omega⟩, if_neg (by omega), bt_nat s 0 h0, if_neg (by omega), hx, one_eq s h0 (by omega), hT, Option.bind_some] at h
    rw [if_pos (show (0 : Int) < (s.size : Int) by omega), if_pos (show ((0 : Nat) : Int) + (s.size : Int) ≤ (s.size : Int) by omega), show ((0 : Nat) : Int) + (s.size : Int) = (s.size : Int) by omega] at h
    rw [scanN, Int.toNat_natCast, show (⟨#[32, 9, 13, 10]⟩ : ByteArray) = WS from rfl, run_eq _ WS (by rw [ByteArray.size_extract]; omega) (by decide) ascii_WS, ext_all, show (D s).drop s.size = [] from drop_end s _ (Nat.le_refl _), Option.bind_some, spnL_nil, if_pos (by omega), if_pos (by omega), Option.map_some] at h
    obtain ⟨rfl, rfl⟩ := Prod.mk.inj (Option.some.inj h)
    exact ⟨by omega, _, rfl, rfl, rfl⟩
  · rintro ⟨hR, x, rfl, h2, hf⟩
    rcases scan_step s hs (k + 1) 0 (by omega) [x] R h with h | ⟨j, hij, hj, h⟩ | ⟨p, hp, e, rest, hip, he0, he, hpe, ht, hr⟩
    · cases h
    · have := two_size s hs (k + 1) j [x] R hj h x (List.mem_singleton.2 rfl) h2
      rw [hf] at this
      omega
    · obtain ⟨hx, rfl⟩ := List.cons.inj ht
      have hk : (tokS s[p] ((D s).drop (p + 1))).1 = 2 := (congrArg S40.f0 hx).symm.trans h2
      obtain ⟨hA, hT, h255⟩ := tokS_two _ _ hk
      have hl := spnL_le (inS SY) (s[p] :: (D s).drop (p + 1))
      have hd : (D s).drop p = s[p] :: (D s).drop (p + 1) := drop_cons s p hp
      rw [← hd] at hT h255 hl
      rw [List.length_drop, D_len] at hl
      have hf2 : (tokS s[p] ((D s).drop (p + 1))).2.1 = s := (congrArg S40.f1 hx).symm.trans hf
      rw [hT] at hf2
      have hsz : s.size = spnL (inS SY) ((D s).drop p) := by
        have h3 := congrArg (fun t => (D t).length) hf2
        simp only [D_mk] at h3
        rw [List.length_take, D_len, List.length_drop, D_len] at h3
        omega
      have hp0 : p = 0 := by omega
      subst hp0
      rw [List.drop_zero] at hsz
      exact ⟨hp, hA, hsz.symm, by rw [List.drop_zero] at h255; omega⟩

theorem is_ev (s : ByteArray) (hs : s.size ≤ 1099511627776) : ∃ b, token_Is.f s = some b ∧ Ev (fun k => temporef23_Is.f k s) b := by
  classical
  obtain ⟨toks, R, e1, e2, e3, e4⟩ := scan_both s hs (s.size + 1) 0 (by omega) (by omega)
  have h4 := e4 [] (by simp only [List.length_nil]; omega)
  rw [List.nil_append] at h4
  have hiff := is_scan s hs s.size toks R e1
  have hI : Ev (fun k => temporef23_Is.f k s) (decide (isS s)) := by
    unfold temporef23_Is.f temporef23_tokens.f
    refine Ev.bind h4 ?_
    by_cases hR : R < 0
    · simp only [if_pos hR]
      match toks, hiff with
      | [], hiff =>
        rw [decide_eq_false (fun h => by obtain ⟨_, x, hx, _⟩ := hiff.1 h; cases hx)]
        exact Ev.now _
      | [x], hiff =>
        simp only [List.map_cons, List.map_nil, List.length_cons, List.length_nil, show (((0 + 1 : Nat) : Int) = 1) from rfl, show ((0 : Int) < 1) from by decide, ↓reduceIte]
        have h1 : rd_T52 [cv x] 0 = cv x := rfl
        rw [h1]
        by_cases h2 : x.f0 = 2
        · simp only [if_pos (show (cv x).f0 = 2 from h2)]
          by_cases hf : x.f1 = s
          · rw [decide_eq_true (hiff.2 ⟨hR, x, rfl, h2, hf⟩), show ((cv x).f1.toList == s.toList) = true by rw [show (cv x).f1 = s from hf]; simp]
            exact Ev.now _
          · rw [decide_eq_false (fun h => by obtain ⟨_, y, hy, _, h3⟩ := hiff.1 h; obtain ⟨rfl, _⟩ := List.cons.inj hy; exact hf h3), show ((cv x).f1.toList == s.toList) = false by rw [beq_eq_false_iff_ne, toList_D, toList_D]; exact fun e => hf (D_inj e)]
            exact Ev.now _
        · simp only [if_neg (show ¬ (cv x).f0 = 2 from h2)]
          rw [decide_eq_false (fun h => by obtain ⟨_, y, hy, h3, _⟩ := hiff.1 h; obtain ⟨rfl, _⟩ := List.cons.inj hy; exact h2 h3)]
          exact Ev.now _
      | x :: y :: r, hiff =>
        simp only [List.map_cons, List.length_cons, List.length_map, if_neg (show ¬ (((r.length + 1 + 1 : Nat) : Int) = 1) by omega)]
        rw [decide_eq_false (fun h => by obtain ⟨_, z, hz, _⟩ := hiff.1 h; simp at hz)]
        exact Ev.now _
    · simp only [if_neg hR]
      rw [decide_eq_false (fun h => hR (hiff.1 h).1)]
      exact Ev.now _
  rcases isF_eq s hs with ⟨h1, h2⟩ | ⟨h1, h2⟩
  · rw [decide_eq_true h1] at hI; exact ⟨_, h2, hI⟩
  · rw [decide_eq_false h1] at hI; exact ⟨_, h2, hI⟩
end Go.Proofs.Ytlpoglkddknedaa.P

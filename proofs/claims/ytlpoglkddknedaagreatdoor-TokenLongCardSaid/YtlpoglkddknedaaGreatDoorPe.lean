/- Plain facts on the scanner's functions: runs of bytes, the first place of a byte, one token (tokS), the scanner's step. Conditions: at most 2^47 - 4096 bytes. -/
import Derived.Test.YtlpoglkddknedaaGreatDoorTx9
import Derived.Test.YtlpoglkddknedaaGreatDoorTx11
import Derived.Test.YtlpoglkddknedaaGreatDoorHc
namespace Go.Proofs.YtlpoglkddknedaaGreatDoor.P
open Go.RowKit Go.Proofs.YtlpoglkddknedaaGreatDoor.T Go.Proofs.YtlpoglkddknedaaGreatDoor.H Go.Proofs.YtlpoglkddknedaaGreatDoorW.PrintWords Go.Proofs.YtlpoglkddknedaaGreatDoorW.PrintLast
set_option linter.unusedVariables false
set_option linter.unusedSimpArgs false
theorem wrap_id {n : Int} (h0 : 0 ≤ n) (h1 : n < 9223372036854775808) : wrap64 n = n := by unfold wrap64; omega

abbrev D (s : ByteArray) : List UInt8 := s.data.toList
theorem D_len (s : ByteArray) : (D s).length = s.size := Array.length_toList
theorem D_ext (s : ByteArray) (i j : Nat) : D (s.extract i j) = ((D s).drop i).take (j - i) := by
  unfold D
  rw [ByteArray.data_extract, Array.toList_extract, List.extract_eq_take_drop]
theorem D_inj {s t : ByteArray} (h : D s = D t) : s = t := by
  have h2 : s.data = t.data := Array.toList_inj.1 h
  cases s; cases t; cases h2; rfl
theorem D_mk (l : List UInt8) : D ⟨l.toArray⟩ = l := by simp [D]
theorem mk_D (s : ByteArray) : (⟨(D s).toArray⟩ : ByteArray) = s := D_inj (by simp [D])
theorem D_app (s t : ByteArray) : D (s ++ t) = D s ++ D t := by simp [D]
theorem ext_all (s : ByteArray) (i : Nat) : D (s.extract i s.size) = (D s).drop i := by
  rw [D_ext, List.take_of_length_le]
  rw [List.length_drop, D_len]
  exact Nat.le_refl _
theorem bt_nat (s : ByteArray) (i : Nat) (h : i < s.size) : bt s (i : Int) = (s[i].toNat : Int) := (bt_at s (i : Int) (by simpa using h)).symm
theorem toList_D (s : ByteArray) : s.toList = D s := by simp [D, ByteArray.toList_eq]

/-! ### runs -/
theorem spnL_nil (p : UInt8 → Bool) : spnL p [] = 0 := rfl
theorem spnL_cons (p : UInt8 → Bool) (c : UInt8) (l : List UInt8) : spnL p (c :: l) = if p c then spnL p l + 1 else 0 := by
  unfold spnL
  rw [List.takeWhile_cons]
  split <;> simp
theorem spnL_le (p : UInt8 → Bool) (l : List UInt8) : spnL p l ≤ l.length := by
  induction l with
  | nil => exact Nat.le_refl _
  | cons c l ih =>
    rw [spnL_cons, List.length_cons]
    split
    · exact Nat.succ_le_succ ih
    · exact Nat.zero_le _
theorem spnL_congr {p q : UInt8 → Bool} (h : ∀ c, p c = q c) (l : List UInt8) : spnL p l = spnL q l := by rw [show p = q from funext h]
theorem spnL_stop (p : UInt8 → Bool) (l : List UInt8) (h : spnL p l < l.length) : p l[spnL p l] = false := by
  induction l with
  | nil => simp at h
  | cons c l ih =>
    by_cases hc : p c = true
    · have he : spnL p (c :: l) = spnL p l + 1 := by rw [spnL_cons, if_pos hc]
      have h2 := ih (by rw [he] at h; simpa using h)
      simp only [he, List.getElem_cons_succ]
      exact h2
    · have he : spnL p (c :: l) = 0 := by rw [spnL_cons, if_neg hc]
      simp only [he, List.getElem_cons_zero]
      simpa using hc
theorem idx_eq (l : List UInt8) (c : UInt8) : Lib.indexByte l c = if spnL (· != c) l < l.length then (spnL (· != c) l : Int) else -1 := by
  induction l with
  | nil => rfl
  | cons b l ih =>
    rw [Lib.indexByte, spnL_cons]
    by_cases h : b = c
    · subst h; simp
    · have h1 : (b == c) = false := by simpa using h
      have h2 : (b != c) = true := by simpa using h
      rw [h1, h2, ih]
      by_cases hl : spnL (· != c) l < l.length
      · have h3 : ((spnL (· != c) l : Int) == -1) = false := by rw [beq_eq_false_iff_ne]; omega
        simp [hl, h3]
      · simp [hl]
theorem idx_has (l : List UInt8) (c : UInt8) : decide (Lib.indexByte l c ≥ 0) = l.contains c := by
  induction l with
  | nil => rfl
  | cons b l ih =>
    rw [Lib.indexByte, List.contains_cons]
    by_cases h : b = c
    · subst h; simp
    · have h1 : (b == c) = false := by simpa using h
      have h2 : (c == b) = false := by simpa using fun e => h e.symm
      have h3 := Lib.indexByte_ge l c
      rw [h1, h2, ← ih, Bool.false_or]
      by_cases hl : Lib.indexByte l c = -1
      · simp [hl]
      · have h4 : (Lib.indexByte l c == -1) = false := beq_eq_false_iff_ne.2 hl
        simp only [h4, Bool.false_eq_true, ↓reduceIte]
        congr 1
        apply propext
        omega
/-! ### the sets -/
def AN : ByteArray := ⟨#[65, 66, 67, 68, 69, 70, 71, 72, 73, 74, 75, 76, 77, 78, 79, 80, 81, 82, 83, 84, 85, 86, 87, 88, 89, 90, 97, 98, 99, 100, 101, 102, 103, 104, 105, 106, 107, 108, 109, 110, 111, 112, 113, 114, 115, 116, 117, 118, 119, 120, 121, 122, 48, 49, 50, 51, 52, 53, 54, 55, 56, 57]⟩
def SY : ByteArray := ⟨#[65, 66, 67, 68, 69, 70, 71, 72, 73, 74, 75, 76, 77, 78, 79, 80, 81, 82, 83, 84, 85, 86, 87, 88, 89, 90, 97, 98, 99, 100, 101, 102, 103, 104, 105, 106, 107, 108, 109, 110, 111, 112, 113, 114, 115, 116, 117, 118, 119, 120, 121, 122, 48, 49, 50, 51, 52, 53, 54, 55, 56, 57, 95, 43, 35, 61, 58, 45, 47]⟩
def DG : ByteArray := ⟨#[48, 49, 50, 51, 52, 53, 54, 55, 56, 57]⟩
def SG : ByteArray := ⟨#[46, 42, 91, 93, 40, 41]⟩
def MK : ByteArray := ⟨#[33, 63]⟩
def WS : ByteArray := ⟨#[32, 9, 13, 10]⟩
def XS : ByteArray := ⟨#[95, 43, 35, 61, 58, 45, 47]⟩

theorem run_eq (r set : ByteArray) (hr : r.size ≤ 140737488351232) (hs : set.size ≤ 140737488351232) (ha : set.data.toList.all (fun b => decide (b.toNat < 128)) = true) : token_run.f r set = some (spnL (inS set) (D r) : Int) := by
  unfold token_run.f token_cutLeft.f
  rw [if_pos ⟨hr, hs, ha⟩, Option.bind_some]
  have h1 : H.spn r set ≤ r.size := by
    have h := spnL_le (inS set) (D r)
    rw [D_len] at h
    exact h
  rw [ByteArray.size_extract, Nat.min_self, wrap_id (by omega) (by omega)]
  congr 1
  show ((r.size : Int) - ((r.size - H.spn r set : Nat) : Int)) = ((H.spn r set : Nat) : Int)
  omega
theorem has_eq (set : ByteArray) (c : UInt8) : token_has.f set (c.toNat : Int) = some (inS set c) := by
  unfold token_has.f strings_IndexByte.f
  rw [Option.bind_some, idx_has]
  unfold inS
  congr 2
  simp
/-! ### the answer's own little functions -/
theorem any_in (set : ByteArray) (c : UInt8) : ((D set).any fun b => (b.toNat : Int) == (c.toNat : Int)) = inS set c := by
  unfold inS
  rw [List.contains_eq_any_beq]
  congr 1
  funext b
  rw [Bool.eq_iff_iff, beq_iff_eq, beq_iff_eq]
  constructor
  · intro h; exact (UInt8.toNat_inj.1 (by omega)).symm
  · intro h; rw [h]
def isL (c : UInt8) : Bool := (decide (97 ≤ c.toNat) && decide (c.toNat ≤ 122)) || (decide (65 ≤ c.toNat) && decide (c.toNat ≤ 90))
def isD (c : UInt8) : Bool := decide (48 ≤ c.toNat) && decide (c.toNat ≤ 57)
theorem byte_all {p : UInt8 → Bool} (h : ∀ n : Fin 256, p (UInt8.ofNat n.val) = true) (c : UInt8) : p c = true := by
  have := h ⟨c.toNat, c.toNat_lt⟩
  simpa using this
theorem an_eq (c : UInt8) : inS AN c = (isL c || isD c) := by
  have := byte_all (p := fun c => inS AN c == (isL c || isD c)) (by decide +kernel) c
  simpa using this
theorem dg_eq (c : UInt8) : inS DG c = isD c := by
  have := byte_all (p := fun c => inS DG c == isD c) (by decide +kernel) c
  simpa using this
theorem sy_eq (c : UInt8) : inS SY c = (isD c || isL c || inS XS c) := by
  have := byte_all (p := fun c => inS SY c == (isD c || isL c || inS XS c)) (by decide +kernel) c
  simpa using this
end Go.Proofs.YtlpoglkddknedaaGreatDoor.P

namespace Go.Proofs.YtlpoglkddknedaaGreatDoor.P
open Go.RowKit Go.Proofs.YtlpoglkddknedaaGreatDoor.T Go.Proofs.YtlpoglkddknedaaGreatDoor.H Go.Proofs.YtlpoglkddknedaaGreatDoorW.PrintWords Go.Proofs.YtlpoglkddknedaaGreatDoorW.PrintLast
set_option linter.unusedVariables false
set_option linter.unusedSimpArgs false

def bad : Int × ByteArray × Int := (0, ⟨#[]⟩, 0)
/-- The token at the begin of c :: q: kind, text, extent; extent 0: there is none. -/
def tokS (c : UInt8) (q : List UInt8) : Int × ByteArray × Int :=
  if inS AN c = true then (if spnL (inS SY) (c :: q) ≤ 255 then (2, ⟨((c :: q).take (spnL (inS SY) (c :: q))).toArray⟩, (spnL (inS SY) (c :: q) : Int)) else bad)
  else if inS SG c = true then (3 + Lib.indexByte (D SG) c, ⟨#[c]⟩, 1)
  else if inS MK c = true then (11, ⟨((c :: q).take (min (spnL (inS MK) (c :: q)) 2)).toArray⟩, (min (spnL (inS MK) (c :: q)) 2 : Nat))
  else if c.toNat = 34 then (1, (textL q 0 []).1, (textL q 0 []).2)
  else if c.toNat = 36 then (if 1 ≤ spnL (inS DG) q ∧ spnL (inS DG) q ≤ 3 then (9, ⟨(q.take (spnL (inS DG) q)).toArray⟩, (spnL (inS DG) q : Int) + 1) else bad)
  else if c.toNat = 123 then (if spnL (· != 125) q < q.length then (10, ⟨(q.take (spnL (· != 125) q)).toArray⟩, (spnL (· != 125) q : Int) + 2) else bad)
  else if c.toNat = 59 then (10, ⟨(q.take (spnL (· != 10) q)).toArray⟩, (spnL (· != 10) q : Int) + 1)
  else bad

theorem ascii_AN : AN.data.toList.all (fun b => decide (b.toNat < 128)) = true := by decide
theorem ascii_SY : SY.data.toList.all (fun b => decide (b.toNat < 128)) = true := by decide
theorem ascii_DG : DG.data.toList.all (fun b => decide (b.toNat < 128)) = true := by decide
theorem ascii_MK : MK.data.toList.all (fun b => decide (b.toNat < 128)) = true := by decide
theorem ascii_WS : WS.data.toList.all (fun b => decide (b.toNat < 128)) = true := by decide

theorem ext_take (a : ByteArray) (n : Nat) : a.extract 0 n = ⟨((D a).take n).toArray⟩ := D_inj (by rw [D_ext, D_mk]; rfl)
theorem D_cons (a : ByteArray) (h : 0 < a.size) : D a = a[0] :: (D a).drop 1 := by
  have := drop_cons a 0 h
  rwa [List.drop_zero] at this
theorem spnL_pos {p : UInt8 → Bool} {c : UInt8} {l : List UInt8} (h : p c = true) : 1 ≤ spnL p (c :: l) := by rw [spnL_cons, if_pos h]; omega
theorem eq_of_nat {c : UInt8} {n : Nat} (h : c.toNat = n) (hn : n < 256) : c = UInt8.ofNat n := by
  apply UInt8.toNat_inj.1
  rw [h]
  simp
  omega

theorem idx_cons (b c : UInt8) (q : List UInt8) (h : (b != c) = true) : Lib.indexByte (b :: q) c = if spnL (· != c) q < q.length then ((spnL (· != c) q + 1 : Nat) : Int) else -1 := by
  rw [idx_eq, spnL_cons, if_pos h, List.length_cons]
  by_cases hh : spnL (· != c) q < q.length
  · rw [if_pos (by omega), if_pos hh]
  · rw [if_neg (by omega), if_neg hh]

theorem one_eq (a : ByteArray) (h0 : 0 < a.size) (hs : a.size ≤ 140737488351232) : token_one.f a = some (tokS a[0] ((D a).drop 1)) := by
  have hl := D_len a
  have hd := D_cons a h0
  unfold token_one.f
  rw [if_pos (by omega), show bt a 0 = (a[0].toNat : Int) from bt_nat a 0 h0]
  rw [show (⟨#[65, 66, 67, 68, 69, 70, 71, 72, 73, 74, 75, 76, 77, 78, 79, 80, 81, 82, 83, 84, 85, 86, 87, 88, 89, 90, 97, 98, 99, 100, 101, 102, 103, 104, 105, 106, 107, 108, 109, 110, 111, 112, 113, 114, 115, 116, 117, 118, 119, 120, 121, 122, 48, 49, 50, 51, 52, 53, 54, 55, 56, 57]⟩ : ByteArray) = AN from rfl,
    show (⟨#[65, 66, 67, 68, 69, 70, 71, 72, 73, 74, 75, 76, 77, 78, 79, 80, 81, 82, 83, 84, 85, 86, 87, 88, 89, 90, 97, 98, 99, 100, 101, 102, 103, 104, 105, 106, 107, 108, 109, 110, 111, 112, 113, 114, 115, 116, 117, 118, 119, 120, 121, 122, 48, 49, 50, 51, 52, 53, 54, 55, 56, 57, 95, 43, 35, 61, 58, 45, 47]⟩ : ByteArray) = SY from rfl,
    show (⟨#[48, 49, 50, 51, 52, 53, 54, 55, 56, 57]⟩ : ByteArray) = DG from rfl, show (⟨#[46, 42, 91, 93, 40, 41]⟩ : ByteArray) = SG from rfl, show (⟨#[33, 63]⟩ : ByteArray) = MK from rfl]
  rw [has_eq, has_eq, has_eq, run_eq a SY hs (by decide) ascii_SY, run_eq a MK hs (by decide) ascii_MK]
  simp only [Option.bind_some]
  have hle := spnL_le (inS SY) (D a)
  have hle2 := spnL_le (inS MK) (D a)
  have hsp : ∀ p : UInt8 → Bool, spnL p (a[0] :: (D a).drop 1) = spnL p (D a) := fun p => by rw [← hd]
  unfold tokS
  by_cases hA : inS AN a[0] = true
  · rw [if_pos hA, if_pos hA, hsp, ← hd]
    by_cases h255 : spnL (inS SY) (D a) ≤ 255
    · rw [if_pos (by omega), if_pos h255, if_pos (by omega), if_pos (by omega), ext_take]
      rfl
    · rw [if_neg (by omega), if_neg h255]
      rfl
  · rw [if_neg hA, if_neg hA]
    by_cases hS : inS SG a[0] = true
    · rw [if_pos hS, if_pos hS]
      unfold strings_IndexByte.f
      rw [Option.bind_some, if_pos (by omega), if_pos (by omega)]
      have h1 : ((a[0].toNat : Int).toNat.toUInt8) = a[0] := by simp
      rw [h1]
      have h2 := idx_eq (D SG) a[0]
      have h3 : spnL (· != a[0]) (D SG) ≤ (D SG).length := spnL_le _ _
      have h4 : (D SG).length = 6 := rfl
      have h5 := Lib.indexByte_ge (D SG) a[0]
      have h6 : Lib.indexByte (D SG) a[0] < 7 := by rw [h2]; split <;> omega
      rw [show SG.data.toList = D SG from rfl, wrap_id (by omega) (by omega), ext_take, hd]
      rfl
    · rw [if_neg hS, if_neg hS]
      by_cases hM : inS MK a[0] = true
      · rw [if_pos hM, if_pos hM, hsp, ← hd]
        have hmn : mn (spnL (inS MK) (D a) : Int) 2 = ((min (spnL (inS MK) (D a)) 2 : Nat) : Int) := by unfold mn; split <;> omega
        rw [hmn, if_pos (by omega), if_pos (by omega), ext_take]
        rfl
      · rw [if_neg hM, if_neg hM]
        by_cases h34 : a[0].toNat = 34
        · rw [if_pos (by omega), if_pos h34]
          unfold token_text.f textF
          rw [if_pos hs]
          rfl
        · rw [if_neg (by omega), if_neg h34]
          by_cases h36 : a[0].toNat = 36
          · rw [if_pos (by omega), if_pos h36, if_pos (by omega)]
            have hx : D (a.extract 1 a.size) = (D a).drop 1 := ext_all a 1
            rw [run_eq _ DG (by rw [ByteArray.size_extract]; omega) (by decide) ascii_DG, Option.bind_some, hx]
            have hle3 := spnL_le (inS DG) ((D a).drop 1)
            rw [List.length_drop] at hle3
            by_cases h1 : 1 ≤ spnL (inS DG) ((D a).drop 1)
            · rw [if_pos (by omega)]
              by_cases h3 : spnL (inS DG) ((D a).drop 1) ≤ 3
              · rw [if_pos (by omega), wrap_id (by omega) (by omega), if_pos (by omega), if_pos (by omega), if_pos ⟨h1, h3⟩]
                congr 3
                refine D_inj ?_
                rw [D_ext, D_mk]
                congr 1
              · rw [if_neg (by omega), if_neg (fun h => h3 h.2)]
                rfl
            · rw [if_neg (by omega), if_neg (fun h => h1 h.1)]
              rfl
          · rw [if_neg (by omega), if_neg h36]
            by_cases h123 : a[0].toNat = 123
            · rw [if_pos (by omega), if_pos h123]
              unfold strings_IndexByte.f
              rw [Option.bind_some]
              have hc : a[0] = 123 := eq_of_nat (n := 123) h123 (by decide)
              have h2 := idx_cons a[0] 125 ((D a).drop 1) (by rw [hc]; decide)
              rw [← hd] at h2
              rw [show Lib.indexByte a.data.toList (Int.toNat 125).toUInt8 = Lib.indexByte (D a) 125 from rfl, h2]
              have hld : ((D a).drop 1).length = a.size - 1 := by rw [List.length_drop, hl]
              by_cases hh : spnL (· != 125) ((D a).drop 1) < ((D a).drop 1).length
              · rw [if_pos hh, if_pos hh, if_pos (by omega), if_pos (by omega), if_pos (by omega), wrap_id (by omega) (by omega)]
                congr 3
                · refine D_inj ?_
                  rw [D_ext, D_mk]
                  congr 1
              · rw [if_neg hh, if_neg hh, if_neg (by omega)]
                rfl
            · rw [if_neg (by omega), if_neg h123]
              by_cases h59 : a[0].toNat = 59
              · rw [if_pos (by omega), if_pos h59]
                unfold strings_Cut.f stringslite_Cut.f stringslite_Index.f
                have hc : a[0] = 59 := eq_of_nat (n := 59) h59 (by decide)
                have h2 := idx_cons a[0] 10 ((D a).drop 1) (by rw [hc]; decide)
                rw [← hd] at h2
                have hld : ((D a).drop 1).length = a.size - 1 := by rw [List.length_drop, hl]
                have hle4 := spnL_le (· != 10) ((D a).drop 1)
                show (((some (Lib.indexByte (D a) 10)).bind _).bind _).bind _ = _
                rw [Option.bind_some, h2]
                by_cases hh : spnL (· != 10) ((D a).drop 1) < ((D a).drop 1).length
                · rw [if_pos hh, if_pos (by omega), if_pos (by omega), if_pos (by omega)]
                  rw [show ((⟨#[10]⟩ : ByteArray).size : Int) = 1 from rfl, wrap_id (by omega) (by omega), if_pos (by omega), if_pos (by omega)]
                  simp only [Option.bind_some]
                  have hsz : (a.extract 0 (((spnL (· != 10) ((D a).drop 1) + 1 : Nat) : Int)).toNat).size = spnL (· != 10) ((D a).drop 1) + 1 := by rw [ByteArray.size_extract]; omega
                  rw [hsz, if_pos (by omega)]
                  congr 3
                  refine D_inj ?_
                  rw [D_ext, D_ext, D_mk]
                  simp only [List.drop_zero, Int.toNat_natCast, Nat.sub_zero, Nat.add_sub_cancel]
                  rw [List.drop_take, List.take_take]
                  congr 1
                  omega
                · rw [if_neg hh, if_neg (by omega)]
                  simp only [Option.bind_some]
                  rw [if_pos (by omega)]
                  have hall : spnL (· != 10) ((D a).drop 1) = a.size - 1 := by omega
                  congr 3
                  · refine D_inj ?_
                    rw [ext_all, D_mk, List.take_of_length_le (show ((D a).drop 1).length ≤ spnL (· != 10) ((D a).drop 1) by omega)]
                  · omega
              · rw [if_neg (by omega), if_neg h59]
                rfl
end Go.Proofs.YtlpoglkddknedaaGreatDoor.P

namespace Go.Proofs.YtlpoglkddknedaaGreatDoor.P
open Go.RowKit Go.Proofs.YtlpoglkddknedaaGreatDoor.T Go.Proofs.YtlpoglkddknedaaGreatDoor.H Go.Proofs.YtlpoglkddknedaaGreatDoorW.PrintWords Go.Proofs.YtlpoglkddknedaaGreatDoorW.PrintLast
set_option linter.unusedVariables false
set_option linter.unusedSimpArgs false

theorem step1 (j : Nat) (hj : j < 9223372036854775000) : wrap64 ((j : Int) + 1) = ((j + 1 : Nat) : Int) := by rw [wrap_id (by omega) (by omega)]; rfl

theorem ext_one (s : ByteArray) (j : Nat) (h : j < s.size) : s.extract j (j + 1) = ⟨#[s[j]]⟩ := by
  refine D_inj ?_
  rw [D_ext, show (D s).drop j = _ from drop_cons s j h, Nat.add_sub_cancel_left]
  rfl
theorem app_one (acc : List UInt8) (c : UInt8) : (⟨acc.toArray⟩ : ByteArray) ++ ⟨#[c]⟩ = ⟨(acc ++ [c]).toArray⟩ := D_inj (by rw [D_app, D_mk, D_mk])

theorem mk_eq (c : UInt8) : inS MK c = (c.toNat == 33 || c.toNat == 63) := by
  have := byte_all (p := fun c => inS MK c == (c.toNat == 33 || c.toNat == 63)) (by decide +kernel) c
  simpa using this
theorem sg_disj (c : UInt8) (h : inS SG c = true) : c.toNat ≠ 34 ∧ c.toNat ≠ 36 ∧ c.toNat ≠ 123 ∧ c.toNat ≠ 59 ∧ c.toNat ≠ 33 ∧ c.toNat ≠ 63 := by
  have := byte_all (p := fun c => !(inS SG c) || (c.toNat != 34 && (c.toNat != 36 && (c.toNat != 123 && (c.toNat != 59 && (c.toNat != 33 && c.toNat != 63)))))) (by decide +kernel) c
  simpa [h] using this

/-- The answer's token at place i. -/
def refS (c : UInt8) (q : List UInt8) (i : Nat) : Int × ByteArray × Int × Int :=
  if c.toNat = 34 then (1, (textL q 0 []).1, i, if (textL q 0 []).2 = 0 then 0 else (i : Int) + (textL q 0 []).2)
  else if (tokS c q).2.2 = 0 then (0, ⟨#[]⟩, 0, 0) else ((tokS c q).1, (tokS c q).2.1, i, (i : Int) + (tokS c q).2.2)

theorem ext_mid (s : ByteArray) (i n : Nat) : s.extract i (i + n) = ⟨(((D s).drop i).take n).toArray⟩ := D_inj (by rw [D_ext, D_mk, Nat.add_sub_cancel_left])

end Go.Proofs.YtlpoglkddknedaaGreatDoor.P

namespace Go.Proofs.YtlpoglkddknedaaGreatDoor.P
open Go.RowKit Go.Proofs.YtlpoglkddknedaaGreatDoor.T Go.Proofs.YtlpoglkddknedaaGreatDoor.H Go.Proofs.YtlpoglkddknedaaGreatDoorW.PrintWords Go.Proofs.YtlpoglkddknedaaGreatDoorW.PrintLast
set_option linter.unusedVariables false
set_option linter.unusedSimpArgs false

theorem textL_bound : ∀ (n : Nat) (l : List UInt8) (i : Nat) (acc : List UInt8), l.length ≤ n → (textL l i acc).2 = 0 ∨ ((i : Int) + 2 ≤ (textL l i acc).2 ∧ (textL l i acc).2 ≤ (i : Int) + l.length + 1) := by
  intro n
  induction n using Nat.strongRecOn with
  | ind n ih =>
    intro l i acc hl
    match l, hl with
    | [], _ => exact .inl rfl
    | c :: r, hl =>
      rw [textL_cons, List.length_cons]
      rw [List.length_cons] at hl
      by_cases hp : c.toNat < 32 ∨ 126 < c.toNat
      · rw [if_pos hp]; exact .inl rfl
      · rw [if_neg hp]
        by_cases h34 : c.toNat = 34
        · rw [if_pos h34]
          by_cases h255 : 255 < acc.length
          · rw [if_pos h255]; exact .inl rfl
          · rw [if_neg h255]; right; show (i : Int) + 2 ≤ (i : Int) + 2 ∧ (i : Int) + 2 ≤ _; omega
        · rw [if_neg h34]
          by_cases h92 : c.toNat = 92
          · rw [if_pos h92]
            match r, hl with
            | [], _ => exact .inl rfl
            | d :: r', hl =>
              rw [List.length_cons] at hl
              dsimp only
              by_cases hd : d.toNat = 34 ∨ d.toNat = 92
              · rw [if_pos hd]
                rcases ih (n - 2) (by omega) r' (i + 2) (acc ++ [d]) (by omega) with h | h
                · exact .inl h
                · right; rw [List.length_cons]; omega
              · rw [if_neg hd]; exact .inl rfl
          · rw [if_neg h92]
            rcases ih (n - 1) (by omega) r (i + 1) (acc ++ [c]) (by omega) with h | h
            · exact .inl h
            · right; omega

theorem tokS_bound (c : UInt8) (q : List UInt8) : 0 ≤ (tokS c q).2.2 ∧ (tokS c q).2.2 ≤ (q.length : Int) + 1 := by
  have h1 := spnL_le (inS SY) (c :: q)
  have h2 := spnL_le (inS MK) (c :: q)
  have h3 := spnL_le (inS DG) q
  have h4 := spnL_le (· != 125) q
  have h5 := spnL_le (· != 10) q
  have h6 := textL_bound q.length q 0 [] (Nat.le_refl _)
  rw [List.length_cons] at h1 h2
  unfold tokS
  split
  · split
    · show 0 ≤ (spnL (inS SY) (c :: q) : Int) ∧ (spnL (inS SY) (c :: q) : Int) ≤ _; omega
    · show (0 : Int) ≤ 0 ∧ (0 : Int) ≤ _; omega
  · split
    · show (0 : Int) ≤ 1 ∧ (1 : Int) ≤ _; omega
    · split
      · show (0 : Int) ≤ ((min (spnL (inS MK) (c :: q)) 2 : Nat) : Int) ∧ ((min (spnL (inS MK) (c :: q)) 2 : Nat) : Int) ≤ _; omega
      · split
        · show 0 ≤ (textL q 0 []).2 ∧ (textL q 0 []).2 ≤ _; omega
        · split
          · split
            · show (0 : Int) ≤ (spnL (inS DG) q : Int) + 1 ∧ (spnL (inS DG) q : Int) + 1 ≤ _; omega
            · show (0 : Int) ≤ 0 ∧ (0 : Int) ≤ _; omega
          · split
            · split
              · show (0 : Int) ≤ (spnL (· != 125) q : Int) + 2 ∧ (spnL (· != 125) q : Int) + 2 ≤ _; omega
              · show (0 : Int) ≤ 0 ∧ (0 : Int) ≤ _; omega
            · split
              · show (0 : Int) ≤ (spnL (· != 10) q : Int) + 1 ∧ (spnL (· != 10) q : Int) + 1 ≤ _; omega
              · show (0 : Int) ≤ 0 ∧ (0 : Int) ≤ _; omega

theorem ref_none (c : UInt8) (q : List UInt8) (i : Nat) (h : (tokS c q).2.2 = 0) : (refS c q i).2.2.2 = 0 := by
  unfold refS
  by_cases h34 : c.toNat = 34
  · have hc : c = 34 := eq_of_nat (n := 34) h34 (by decide)
    have hT : tokS c q = (1, (textL q 0 []).1, (textL q 0 []).2) := by
      rw [hc]; unfold tokS; rw [if_neg (by decide), if_neg (by decide), if_neg (by decide), if_pos (by decide)]
    rw [hT] at h
    rw [if_pos h34, if_pos h]
  · rw [if_neg h34, if_pos h]
theorem ref_some (c : UInt8) (q : List UInt8) (i : Nat) (h : (tokS c q).2.2 ≠ 0) : refS c q i = ((tokS c q).1, (tokS c q).2.1, (i : Int), (i : Int) + (tokS c q).2.2) := by
  unfold refS
  by_cases h34 : c.toNat = 34
  · have hc : c = 34 := eq_of_nat (n := 34) h34 (by decide)
    have hT : tokS c q = (1, (textL q 0 []).1, (textL q 0 []).2) := by
      rw [hc]; unfold tokS; rw [if_neg (by decide), if_neg (by decide), if_neg (by decide), if_pos (by decide)]
    rw [hT] at h ⊢
    rw [if_pos h34, if_neg h]
  · rw [if_neg h34, if_neg h]

end Go.Proofs.YtlpoglkddknedaaGreatDoor.P

namespace Go.Proofs.YtlpoglkddknedaaGreatDoor.P
open Go.RowKit Go.Proofs.YtlpoglkddknedaaGreatDoor.T Go.Proofs.YtlpoglkddknedaaGreatDoor.H Go.Proofs.YtlpoglkddknedaaGreatDoorW.PrintWords Go.Proofs.YtlpoglkddknedaaGreatDoorW.PrintLast
set_option linter.unusedVariables false
set_option linter.unusedSimpArgs false

def isS (s : ByteArray) : Prop := ∃ h : 0 < s.size, inS AN s[0] = true ∧ spnL (inS SY) (D s) = s.size ∧ s.size ≤ 255
theorem isF_eq (s : ByteArray) (hs : s.size ≤ 1099511627776) : (isS s ∧ token_Is.f s = some true) ∨ (¬ isS s ∧ token_Is.f s = some false) := by
  unfold token_Is.f
  rw [show (⟨#[65, 66, 67, 68, 69, 70, 71, 72, 73, 74, 75, 76, 77, 78, 79, 80, 81, 82, 83, 84, 85, 86, 87, 88, 89, 90, 97, 98, 99, 100, 101, 102, 103, 104, 105, 106, 107, 108, 109, 110, 111, 112, 113, 114, 115, 116, 117, 118, 119, 120, 121, 122, 48, 49, 50, 51, 52, 53, 54, 55, 56, 57]⟩ : ByteArray) = AN from rfl,
    show (⟨#[65, 66, 67, 68, 69, 70, 71, 72, 73, 74, 75, 76, 77, 78, 79, 80, 81, 82, 83, 84, 85, 86, 87, 88, 89, 90, 97, 98, 99, 100, 101, 102, 103, 104, 105, 106, 107, 108, 109, 110, 111, 112, 113, 114, 115, 116, 117, 118, 119, 120, 121, 122, 48, 49, 50, 51, 52, 53, 54, 55, 56, 57, 95, 43, 35, 61, 58, 45, 47]⟩ : ByteArray) = SY from rfl, toList_D]
  by_cases h0 : 0 < s.size
  · have hne : ¬ D s = [] := fun e => by have := D_len s; rw [e] at this; simp at this; omega
    rw [if_neg hne, if_pos (by omega), show bt s 0 = (s[0].toNat : Int) from bt_nat s 0 h0, has_eq, run_eq s SY (by omega) (by decide) ascii_SY]
    simp only [Option.bind_some]
    by_cases hA : inS AN s[0] = true
    · rw [if_pos hA]
      by_cases hS : spnL (inS SY) (D s) = s.size
      · rw [if_pos (by omega)]
        by_cases h255 : s.size ≤ 255
        · left; exact ⟨⟨h0, hA, hS, h255⟩, by rw [decide_eq_true (by omega)]⟩
        · right; exact ⟨fun ⟨_, _, _, h⟩ => h255 h, by rw [decide_eq_false (by omega)]⟩
      · rw [if_neg (by omega)]
        right; exact ⟨fun ⟨_, _, h, _⟩ => hS h, rfl⟩
    · rw [if_neg hA]
      right; exact ⟨fun ⟨_, h, _⟩ => hA h, rfl⟩
  · have hne : D s = [] := List.eq_nil_of_length_eq_zero (by rw [D_len]; omega)
    rw [if_pos hne]
    right; exact ⟨fun ⟨h, _⟩ => h0 h, rfl⟩

theorem tokS_two (c : UInt8) (q : List UInt8) (h : (tokS c q).1 = 2) : inS AN c = true ∧ tokS c q = (2, ⟨((c :: q).take (spnL (inS SY) (c :: q))).toArray⟩, (spnL (inS SY) (c :: q) : Int)) ∧ spnL (inS SY) (c :: q) ≤ 255 := by
  have hg := Lib.indexByte_ge (D SG) c
  have hs := idx_has (D SG) c
  unfold tokS at h ⊢
  by_cases hA : inS AN c = true
  · rw [if_pos hA] at h ⊢
    by_cases h255 : spnL (inS SY) (c :: q) ≤ 255
    · rw [if_pos h255]; exact ⟨hA, rfl, h255⟩
    · rw [if_neg h255] at h; exact absurd h (by decide)
  · exfalso
    rw [if_neg hA] at h
    by_cases hS : inS SG c = true
    · rw [if_pos hS] at h
      rw [show (D SG).contains c = true from hS] at hs
      have h2 := of_decide_eq_true hs
      have h3 : 3 + Lib.indexByte (D SG) c = 2 := h
      omega
    · rw [if_neg hS] at h
      split at h
      · exact absurd (show (11 : Int) = 2 from h) (by decide)
      · split at h
        · exact absurd (show (1 : Int) = 2 from h) (by decide)
        · split at h
          · split at h
            · exact absurd (show (9 : Int) = 2 from h) (by decide)
            · exact absurd (show (0 : Int) = 2 from h) (by decide)
          · split at h
            · split at h
              · exact absurd (show (10 : Int) = 2 from h) (by decide)
              · exact absurd (show (0 : Int) = 2 from h) (by decide)
            · split at h
              · exact absurd (show (10 : Int) = 2 from h) (by decide)
              · exact absurd (show (0 : Int) = 2 from h) (by decide)

/-- What scanN does at place i. -/
theorem scan_step (s : ByteArray) (hs : s.size ≤ 1099511627776) (k i : Nat) (hi : i ≤ s.size) (toks : List S31) (R : Int) (h : scanN (k + 1) s (i : Int) = some (toks, R)) :
    (toks = [] ∨ (∃ j : Nat, i < j ∧ j ≤ s.size ∧ scanN k s (j : Int) = some (toks, R)) ∨
      (∃ (p : Nat) (hp : p < s.size) (e : Nat) (rest : List S31), i ≤ p ∧ 0 < e ∧ (tokS s[p] ((D s).drop (p + 1))).2.2 = (e : Int) ∧ p + e ≤ s.size ∧ toks = ⟨(tokS s[p] ((D s).drop (p + 1))).1, (tokS s[p] ((D s).drop (p + 1))).2.1, (p : Int)⟩ :: rest ∧ scanN k s ((p + e : Nat) : Int) = some (rest, R))) := by
  obtain ⟨m, hm⟩ : ∃ m, spnL (inS WS) ((D s).drop i) = m := ⟨_, rfl⟩
  have hle := spnL_le (inS WS) ((D s).drop i)
  rw [List.length_drop, D_len, hm] at hle
  have hrun : token_run.f (s.extract (i : Int).toNat s.size) (⟨#[32, 9, 13, 10]⟩ : ByteArray) = some (m : Int) := by
    rw [Int.toNat_natCast, show (⟨#[32, 9, 13, 10]⟩ : ByteArray) = WS from rfl, run_eq _ WS (by rw [ByteArray.size_extract]; omega) (by decide) ascii_WS, ext_all, hm]
  obtain ⟨p, hp⟩ : ∃ p, i + m = p := ⟨_, rfl⟩
  have hpi : (i : Int) + (m : Int) = (p : Int) := by omega
  rw [scanN, hrun, Option.bind_some, hpi, if_pos ⟨by omega, by omega⟩] at h
  by_cases hend : p = s.size
  · rw [if_pos (by omega)] at h
    exact .inl (Prod.mk.inj (Option.some.inj h)).1.symm
  · rw [if_neg (by omega)] at h
    have hlt : p < s.size := by omega
    have hd : (D s).drop p = s[p] :: (D s).drop (p + 1) := drop_cons s p hlt
    split at h
    · rename_i hln
      unfold strings_IndexByte.f at h
      rw [Option.bind_some] at h
      split at h
      · split at h
        · rename_i hx
          right; left
          obtain ⟨x, hxe⟩ : ∃ x : Nat, Lib.indexByte (s.extract (p : Int).toNat s.size).data.toList (Int.toNat 10).toUInt8 = (x : Int) := ⟨_, (Int.toNat_of_nonneg (by omega)).symm⟩
          rw [hxe] at hx h
          exact ⟨p + x, by omega, by omega, by rw [show ((p + x : Nat) : Int) = (p : Int) + (x : Int) by omega]; exact h⟩
        · cases h
      · exact .inl (Prod.mk.inj (Option.some.inj h)).1.symm
    · have hx : s.extract (p : Int).toNat s.size = s.extract p s.size := by rw [Int.toNat_natCast]
      have hxs : (s.extract p s.size).size = s.size - p := by rw [ByteArray.size_extract]; omega
      have h0 : (s.extract p s.size)[0]'(by omega) = s[p] := by
        have h3 : (D (s.extract p s.size))[0]'(by rw [D_len]; omega) = s[p] := by
          have h4 := ext_all s p
          rw [hd] at h4
          simp only [h4, List.getElem_cons_zero]
        exact h3
      have h1 : (D (s.extract p s.size)).drop 1 = (D s).drop (p + 1) := by rw [ext_all, List.drop_drop]
      have hone := one_eq (s.extract p s.size) (by omega) (by omega)
      rw [h0, h1] at hone
      rw [hx, hone, Option.bind_some] at h
      have hb := tokS_bound s[p] ((D s).drop (p + 1))
      rw [List.length_drop, D_len] at hb
      split at h
      · split at h
        · obtain ⟨⟨r1, r2⟩, hr, he⟩ := Option.map_eq_some_iff.1 h
          obtain ⟨e, hee⟩ : ∃ e : Nat, (tokS s[p] ((D s).drop (p + 1))).2.2 = (e : Int) := ⟨_, (Int.toNat_of_nonneg hb.1).symm⟩
          obtain ⟨he1, he2⟩ := Prod.mk.inj he
          right; right
          refine ⟨p, hlt, e, r1, by omega, by omega, hee, by omega, he1.symm, ?_⟩
          rw [show ((p + e : Nat) : Int) = (p : Int) + (e : Int) by omega, ← hee, hr]
          exact congrArg some (by rw [← he2])
        · cases h
      · exact .inl (Prod.mk.inj (Option.some.inj h)).1.symm

theorem two_size (s : ByteArray) (hs : s.size ≤ 1099511627776) : ∀ (k i : Nat) (toks : List S31) (R : Int), i ≤ s.size → scanN k s (i : Int) = some (toks, R) → ∀ x ∈ toks, x.f0 = 2 → x.f1.size + i ≤ s.size := by
  intro k
  induction k with
  | zero => intro i toks R _ h; simp [scanN] at h
  | succ k ih =>
    intro i toks R hi h x hx h2
    rcases scan_step s hs k i hi toks R h with h | ⟨j, hij, hj, h⟩ | ⟨p, hp, e, rest, hip, he0, he, hpe, ht, hr⟩
    · rw [h] at hx; cases hx
    · have := ih j toks R hj h x hx h2; omega
    · rw [ht] at hx
      rcases List.mem_cons.1 hx with rfl | hx
      · obtain ⟨_, hT, _⟩ := tokS_two _ _ h2
        have hl := spnL_le (inS SY) (s[p] :: (D s).drop (p + 1))
        rw [hT] at he ⊢
        have : (⟨((s[p] :: (D s).drop (p + 1)).take (spnL (inS SY) (s[p] :: (D s).drop (p + 1)))).toArray⟩ : ByteArray).size = spnL (inS SY) (s[p] :: (D s).drop (p + 1)) := by
          show (Array.size _) = _
          rw [List.size_toArray, List.length_take]
          omega
        show (⟨((s[p] :: (D s).drop (p + 1)).take (spnL (inS SY) (s[p] :: (D s).drop (p + 1)))).toArray⟩ : ByteArray).size + i ≤ s.size
        rw [this]
        have he' : ((spnL (inS SY) (s[p] :: (D s).drop (p + 1)) : Nat) : Int) = (e : Int) := he
        omega
      · have := ih (p + e) rest R (by omega) hr x hx h2; omega

theorem an_ws (c : UInt8) (h : inS AN c = true) : inS WS c = false ∧ c.toNat ≠ 37 := by
  have := byte_all (p := fun c => !(inS AN c) || (!(inS WS c) && c.toNat != 37)) (by decide +kernel) c
  simpa [h] using this

theorem is_scan (s : ByteArray) (hs : s.size ≤ 1099511627776) (k : Nat) (toks : List S31) (R : Int) (h : scanN (k + 2) s ((0 : Nat) : Int) = some (toks, R)) : isS s ↔ (R < 0 ∧ ∃ x, toks = [x] ∧ x.f0 = 2 ∧ x.f1 = s) := by
  constructor
  · rintro ⟨h0, hA, hS, h255⟩
    have hd : D s = s[0] :: (D s).drop 1 := D_cons s h0
    obtain ⟨hw, h37⟩ := an_ws _ hA
    have hx : s.extract ((0 : Nat) : Int).toNat s.size = s := D_inj (by rw [show ((0 : Nat) : Int).toNat = 0 from rfl, ext_all, List.drop_zero])
    have hrun : token_run.f (s.extract ((0 : Nat) : Int).toNat s.size) (⟨#[32, 9, 13, 10]⟩ : ByteArray) = some ((0 : Nat) : Int) := by
      rw [hx, show (⟨#[32, 9, 13, 10]⟩ : ByteArray) = WS from rfl, run_eq _ WS (by omega) (by decide) ascii_WS, hd, spnL_cons, if_neg (by rw [hw]; decide)]
    have hT : tokS s[0] ((D s).drop 1) = (2, s, (s.size : Int)) := by
      unfold tokS
      rw [if_pos hA, ← hd, hS, if_pos h255]
      congr 2
      exact D_inj (by rw [D_mk, ← D_len, List.take_length])
    rw [scanN, hrun, Option.bind_some, show (((0 : Nat) : Int) + ((0 : Nat) : Int)) = ((0 : Nat) : Int) from rfl, if_pos ⟨by omega, by omega⟩, if_neg (by omega), bt_nat s 0 h0, if_neg (by omega), hx, one_eq s h0 (by omega), hT, Option.bind_some] at h
    rw [if_pos (show (0 : Int) < (s.size : Int) by omega), if_pos (show ((0 : Nat) : Int) + (s.size : Int) ≤ (s.size : Int) by omega), show ((0 : Nat) : Int) + (s.size : Int) = (s.size : Int) by omega] at h
    rw [scanN, Int.toNat_natCast, show (⟨#[32, 9, 13, 10]⟩ : ByteArray) = WS from rfl, run_eq _ WS (by rw [ByteArray.size_extract]; omega) (by decide) ascii_WS, ext_all, show (D s).drop s.size = [] from drop_end s _ (Nat.le_refl _), Option.bind_some, spnL_nil, if_pos (by omega), if_pos (by omega), Option.map_some] at h
    obtain ⟨rfl, rfl⟩ := Prod.mk.inj (Option.some.inj h)
    exact ⟨by omega, _, rfl, rfl, rfl⟩
  · rintro ⟨hR, x, rfl, h2, hf⟩
    rcases scan_step s hs (k + 1) 0 (by omega) [x] R h with h | ⟨j, hij, hj, h⟩ | ⟨p, hp, e, rest, hip, he0, he, hpe, ht, hr⟩
    · cases h
    · have := two_size s hs (k + 1) j [x] R hj h x (List.mem_singleton.2 rfl) h2
      rw [hf] at this
      omega
    · obtain ⟨hx, rfl⟩ := List.cons.inj ht
      have hk : (tokS s[p] ((D s).drop (p + 1))).1 = 2 := (congrArg S31.f0 hx).symm.trans h2
      obtain ⟨hA, hT, h255⟩ := tokS_two _ _ hk
      have hl := spnL_le (inS SY) (s[p] :: (D s).drop (p + 1))
      have hd : (D s).drop p = s[p] :: (D s).drop (p + 1) := drop_cons s p hp
      rw [← hd] at hT h255 hl
      rw [List.length_drop, D_len] at hl
      have hf2 : (tokS s[p] ((D s).drop (p + 1))).2.1 = s := (congrArg S31.f1 hx).symm.trans hf
      rw [hT] at hf2
      have hsz : s.size = spnL (inS SY) ((D s).drop p) := by
        have h3 := congrArg (fun t => (D t).length) hf2
        simp only [D_mk] at h3
        rw [List.length_take, D_len, List.length_drop, D_len] at h3
        omega
      have hp0 : p = 0 := by omega
      subst hp0
      rw [List.drop_zero] at hsz
      exact ⟨hp, hA, hsz.symm, by rw [List.drop_zero] at h255; omega⟩

end Go.Proofs.YtlpoglkddknedaaGreatDoor.P

/- The plain law of MovetextWrites: the document's Wrap answers as wrapL does, its Number as numberF does. No program in sight. -/
import Derived.Test.YtlpoglkddknedaaDoorTx27
import Derived.IntWalk
import Derived.Lib.ItoaLen
import Derived.Stop.FmtTextWidths
namespace Go.Proofs.YtlpoglkddknedaaDoor.Q
open Go.RowKit Go.Proofs.YtlpoglkddknedaaDoor.T Go.Proofs.YtlpoglkddknedaaDoor.H Go.Proofs.YtlpoglkddknedaaDoorW.PrintWords Go.Proofs.YtlpoglkddknedaaDoorW.PrintLast
set_option linter.unusedVariables false
set_option linter.unusedSimpArgs false

theorem step1 (j : Nat) (h : j < 9223372036854775000) : wrap64 ((j : Int) + 1) = ((j + 1 : Nat) : Int) := by rw [IntWalk.wrap64_in _ (by omega)]; rfl
theorem rd_at (l : List ByteArray) (i : Nat) (h : i < l.length) : rdOf ByteArray.empty l (i : Int) = l[i] := by unfold rdOf; simp [h]
theorem ba_ext {a b : ByteArray} (h : a.data.toList = b.data.toList) : a = b := by
  cases a; cases b; simp only [ByteArray.mk.injEq]; exact Array.toList_inj.1 h
theorem size_eq (a : ByteArray) : a.size = a.data.toList.length := by rw [Array.length_toList]; rfl
theorem toList_eq {a b : ByteArray} (h : a = b) : a.toList = b.toList := by rw [h]

/-! ### the words compared -/
theorem eqS_ev (l : List ByteArray) (hl : l.length < 9223372036854775000) : ∀ (n j : Nat), l.length - j ≤ n → j ≤ l.length → Ev (fun k => slices_Equal_string_string.l0 k l l (l.length : Int) (j : Int)) true := by
  intro n
  induction n with
  | zero =>
    intro j hj hjl
    refine Ev.step (fun k => by rw [slices_Equal_string_string.l0]) ?_
    simp only [if_neg (show ¬ (j : Int) < (l.length : Int) by omega)]
    exact Ev.now _
  | succ n ih =>
    intro j hj hjl
    refine Ev.step (fun k => by rw [slices_Equal_string_string.l0]) ?_
    by_cases h : j < l.length
    · simp only [if_pos (show (j : Int) < (l.length : Int) by omega), if_pos (show (0 : Int) ≤ j by omega), step1 j (show j < 9223372036854775000 by omega), ↓reduceIte]
      exact ih (j + 1) (by omega) (by omega)
    · simp only [if_neg (show ¬ (j : Int) < (l.length : Int) by omega)]
      exact Ev.now _
theorem eqS_all (l : List ByteArray) (hl : l.length < 9223372036854775000) : Ev (fun k => slices_Equal_string_string.f k l l) true := by
  unfold slices_Equal_string_string.f
  simp only [↓reduceIte]
  exact eqS_ev l hl l.length 0 (by omega) (by omega)

/-! ### digits -/
theorem digit_one : ∀ u : Nat, u < 10 → (⟨#[48, 49, 50, 51, 52, 53, 54, 55, 56, 57]⟩ : ByteArray).extract u (u + 1) = ⟨#[UInt8.ofNat (48 + u)]⟩ := by
  intro u hu
  have : u = 0 ∨ u = 1 ∨ u = 2 ∨ u = 3 ∨ u = 4 ∨ u = 5 ∨ u = 6 ∨ u = 7 ∨ u = 8 ∨ u = 9 := by omega
  rcases this with rfl | rfl | rfl | rfl | rfl | rfl | rfl | rfl | rfl | rfl <;> (apply ba_ext; decide +kernel)
theorem digits_ev (u : Nat) (hu : u ≤ 1000000) : Ev (fun k => temporef25_digits.f k (u : Int)) ⟨(Lib.decDigits u).toArray⟩ := by
  induction u using Nat.strongRecOn with
  | _ u ih =>
    refine Ev.step (fun k => by rw [temporef25_digits.f]) ?_
    by_cases h : u < 10
    · simp only [if_pos (show (u : Int) < 10 by omega), if_pos (show (0 : Int) ≤ u by omega), step1 u (by omega), if_pos (show (u : Int) ≤ ((u + 1 : Nat) : Int) by omega), if_pos (show ((u + 1 : Nat) : Int) ≤ 10 by omega), Int.toNat_natCast]
      rw [digit_one u h, Lib.decDigits_one h]
      exact Ev.now _
    · have e1 : Int.tdiv (u : Int) 10 = ((u / 10 : Nat) : Int) := rfl
      have e2 : Int.tmod (u : Int) 10 = ((u % 10 : Nat) : Int) := rfl
      simp only [if_neg (show ¬ (u : Int) < 10 by omega), e1, e2]
      rw [IntWalk.wrap64_in _ (by omega)]
      refine Ev.bind (ih (u / 10) (by omega) (by omega)) (Ev.bind (ih (u % 10) (by omega) (by omega)) ?_)
      have hd : Lib.decDigits u = Lib.decDigits (u / 10) ++ [UInt8.ofNat (48 + u % 10)] := by rw [Lib.decDigits, dif_neg h]
      have he : Lib.decDigits (u % 10) = [UInt8.ofNat (48 + u % 10)] := Lib.decDigits_one (by omega)
      have hl : (Lib.decDigits (u / 10)).length ≤ 21 := by have := Lib.itoa_length_le ((u / 10 : Nat) : Int) (by omega) (by omega); rw [Lib.itoa_nonneg] at this; exact this
      have hj : (⟨(Lib.decDigits (u / 10)).toArray⟩ : ByteArray) ++ (⟨(Lib.decDigits (u % 10)).toArray⟩ : ByteArray) = ⟨(Lib.decDigits u).toArray⟩ := by
        apply ba_ext; rw [hd, he]; simp
      rw [if_pos (by rw [he, size_eq, size_eq]; simp; omega), hj]
      exact Ev.now _
theorem number_ev (full turn : Int) (first : Bool) : Ev (fun k => temporef25_Number.f k full turn first) (numberF full turn first) := by
  unfold temporef25_Number.f numberF
  have hj (b : Bool) (R : ByteArray × Int) (h : Ev (fun k => if b = true then (some ((⟨#[]⟩ : ByteArray), (2 : Int))) else (if turn = 0 then ((temporef25_digits.f k full).bind fun t225 => (if t225.size + 1 ≤ 9223372036854775807 then (some (t225 ++ (⟨#[46]⟩ : ByteArray), (0 : Int))) else (none))) else (if first = true then ((temporef25_digits.f k full).bind fun t226 => (if t226.size + 3 ≤ 9223372036854775807 then (some (t226 ++ (⟨#[46, 46, 46]⟩ : ByteArray), (0 : Int))) else (none))) else (some ((⟨#[]⟩ : ByteArray), (0 : Int)))))) R) : Ev (fun k => temporef25_Number.j0 k full turn first b) R := by
    refine Ev.step (fun k => by rw [temporef25_Number.j0]) h
  by_cases h1 : full < 1
  · simp only [if_pos h1, if_pos (show full < 1 ∨ 10000 < full ∨ (turn ≠ 0 ∧ turn ≠ 1) from .inl h1)]
    exact hj true _ (by simp only [↓reduceIte]; exact Ev.now _)
  · by_cases h2 : 10000 < full
    · simp only [if_neg h1, if_pos (show full > 10000 from h2), if_pos (show full < 1 ∨ 10000 < full ∨ (turn ≠ 0 ∧ turn ≠ 1) from .inr (.inl h2))]
      exact hj true _ (by simp only [↓reduceIte]; exact Ev.now _)
    · have hI : (Lib.itoa full) = Lib.decDigits full.toNat := by unfold Lib.itoa; rw [if_neg (by omega)]
      have hD := digits_ev full.toNat (by omega)
      rw [Int.toNat_of_nonneg (by omega)] at hD
      have hl : (Lib.decDigits full.toNat).length ≤ 21 := by have := Lib.itoa_length_le full (by omega) (by omega); rw [hI] at this; exact this
      have hz : (⟨(Lib.decDigits full.toNat).toArray⟩ : ByteArray).size = (Lib.decDigits full.toNat).length := by rw [size_eq]
      by_cases h3 : turn = 0
      · simp only [if_neg h1, if_neg (show ¬ full > 10000 from h2), if_pos h3, if_neg (show ¬ (full < 1 ∨ 10000 < full ∨ (turn ≠ 0 ∧ turn ≠ 1)) by omega)]
        refine hj false _ ?_
        simp only [Bool.false_eq_true, if_false, if_pos h3]
        refine Ev.bind hD ?_
        rw [if_pos (by omega), hI]
        exact Ev.now _
      · by_cases h4 : turn = 1
        · have hb : (turn != 1) = false := by rw [h4]; rfl
          simp only [if_neg h1, if_neg (show ¬ full > 10000 from h2), if_neg h3, hb, if_neg (show ¬ (full < 1 ∨ 10000 < full ∨ (turn ≠ 0 ∧ turn ≠ 1)) by omega)]
          refine hj false _ ?_
          simp only [Bool.false_eq_true, if_false, if_neg h3]
          cases first with
          | true =>
            simp only [↓reduceIte]
            refine Ev.bind hD ?_
            rw [if_pos (by omega), hI]
            exact Ev.now _
          | false => simp only [Bool.false_eq_true, if_false]; exact Ev.now _
        · have hb : (turn != 1) = true := by simp [h4]
          simp only [if_neg h1, if_neg (show ¬ full > 10000 from h2), if_neg h3, hb, if_pos (show (full < 1 ∨ 10000 < full ∨ (turn ≠ 0 ∧ turn ≠ 1)) from .inr (.inr ⟨h3, h4⟩))]
          exact hj true _ (by simp only [↓reduceIte]; exact Ev.now _)

/-! ### Wrap -/
def bad (s : ByteArray) : Bool := decide (s.size = 0) || blankF s
theorem drop_at (l : List ByteArray) (i : Nat) (h : i < l.length) : l.drop i = l[i] :: l.drop (i + 1) := List.drop_eq_getElem_cons h
theorem l1_ev (l : List ByteArray) (width : Int) (i : Nat) (h : i < l.length) (hz : l[i].size ≤ 1000000) (X : ByteArray × Int) :
    ∀ (n p : Nat), l[i].size - p ≤ n → p ≤ l[i].size → ((l[i].data.toList.drop p).any blankB = false → Ev (fun k => temporef25_Wrap.l0 k l width (wrap64 ((i : Int) + 1))) X) → Ev (fun k => temporef25_Wrap.l1 k l width (i : Int) (p : Int)) (if (l[i].data.toList.drop p).any blankB = true then ((⟨#[]⟩ : ByteArray), (2 : Int)) else X) := by
  intro n
  induction n with
  | zero =>
    intro p hp hpl hX
    refine Ev.step (fun k => by rw [temporef25_Wrap.l1]) ?_
    have hX := hX (by rw [List.drop_eq_nil_of_le (by rw [← size_eq]; omega)]; rfl)
    rw [List.drop_eq_nil_of_le (by rw [← size_eq]; omega)]
    simp only [if_pos (show (0 : Int) ≤ i by omega), if_pos (show (i : Int) < (l.length : Int) by omega), rd_at l i h, if_neg (show ¬ (p : Int) < (l[i].size : Int) by omega), List.any_nil, Bool.false_eq_true, if_false]
    exact hX
  | succ n ih =>
    intro p hp hpl hX
    by_cases hlt : p < l[i].size
    · have hb : bt l[i] (p : Int) = ((l[i][p]'hlt).toNat : Int) := by unfold bt; rw [dif_pos (show ((p : Int)).toNat < l[i].size from hlt)]; rfl
      have hd : l[i].data.toList.drop p = (l[i][p]'hlt) :: l[i].data.toList.drop (p + 1) := by
        rw [List.drop_eq_getElem_cons (show p < l[i].data.toList.length by rw [← size_eq]; exact hlt)]; rfl
      have hU (n : Nat) (hn : n < 256) : (((l[i][p]'hlt).toNat : Int) = (n : Int)) = ((l[i][p]'hlt) = UInt8.ofNat n) := by
        refine propext ⟨fun e => ?_, fun e => ?_⟩
        · apply UInt8.toNat_inj.1; rw [UInt8.toNat_ofNat']; omega
        · rw [e, UInt8.toNat_ofNat']; omega
      have h32 := hU 32 (by omega)
      have h9 := hU 9 (by omega)
      have h13 := hU 13 (by omega)
      have h10 := hU 10 (by omega)
      refine Ev.step (fun k => by rw [temporef25_Wrap.l1]) ?_
      simp only [if_pos (show (0 : Int) ≤ i by omega), if_pos (show (i : Int) < (l.length : Int) by omega), rd_at l i h, if_pos (show (p : Int) < (l[i].size : Int) by omega), if_pos (show (0 : Int) ≤ p by omega), hb, step1 p (by omega)]
      rw [hd, List.any_cons]
      have hB : blankB (l[i][p]'hlt) = (decide ((l[i][p]'hlt) = UInt8.ofNat 32) || decide ((l[i][p]'hlt) = UInt8.ofNat 9) || decide ((l[i][p]'hlt) = UInt8.ofNat 13) || decide ((l[i][p]'hlt) = UInt8.ofNat 10)) := by
        unfold blankB; simp only [Bool.beq_eq_decide_eq]; rfl
      rw [hB]
      have h32' : (((l[i][p]'hlt).toNat : Int) = 32) = ((l[i][p]'hlt) = UInt8.ofNat 32) := h32
      have h9' : (((l[i][p]'hlt).toNat : Int) = 9) = ((l[i][p]'hlt) = UInt8.ofNat 9) := h9
      have h13' : (((l[i][p]'hlt).toNat : Int) = 13) = ((l[i][p]'hlt) = UInt8.ofNat 13) := h13
      have h10' : (((l[i][p]'hlt).toNat : Int) = 10) = ((l[i][p]'hlt) = UInt8.ofNat 10) := h10
      simp only [h32', h9', h13', h10']
      rw [hd, List.any_cons, hB] at hX
      have hN := ih (p + 1) (by omega) (by omega)
      by_cases c1 : (l[i][p]'hlt) = UInt8.ofNat 32
      · simp only [if_pos c1, decide_eq_true c1, Bool.true_or, if_true]; exact Ev.now _
      · by_cases c2 : (l[i][p]'hlt) = UInt8.ofNat 9
        · simp only [if_neg c1, if_pos c2, decide_eq_true c2, Bool.true_or, Bool.or_true, if_true]; exact Ev.now _
        · by_cases c3 : (l[i][p]'hlt) = UInt8.ofNat 13
          · simp only [if_neg c1, if_neg c2, if_pos c3, decide_eq_true c3, Bool.true_or, Bool.or_true, if_true]; exact Ev.now _
          · by_cases c4 : (l[i][p]'hlt) = UInt8.ofNat 10
            · simp only [if_neg c1, if_neg c2, if_neg c3, if_pos c4, decide_eq_true c4, Bool.true_or, Bool.or_true, if_true]; exact Ev.now _
            · simp only [if_neg c1, if_neg c2, if_neg c3, if_neg c4, decide_eq_false c1, decide_eq_false c2, decide_eq_false c3, decide_eq_false c4, Bool.false_or] at hX ⊢
              exact hN hX
    · refine Ev.step (fun k => by rw [temporef25_Wrap.l1]) ?_
      have hX := hX (by rw [List.drop_eq_nil_of_le (by rw [← size_eq]; omega)]; rfl)
      rw [List.drop_eq_nil_of_le (by rw [← size_eq]; omega)]
      simp only [if_pos (show (0 : Int) ≤ i by omega), if_pos (show (i : Int) < (l.length : Int) by omega), rd_at l i h, if_neg (show ¬ (p : Int) < (l[i].size : Int) by omega), List.any_nil, Bool.false_eq_true, if_false]
      exact hX
theorem empty_list (s : ByteArray) : (s.toList = ([] : List UInt8)) = (s.size = 0) := by
  refine propext ⟨fun h => ?_, fun h => ?_⟩
  · rw [size_eq, ← Lib.toList_data s]; rw [h]; rfl
  · rw [Lib.toList_data s]; rw [size_eq] at h; exact List.eq_nil_of_length_eq_zero h
theorem l0_ev (l : List ByteArray) (width : Int) (hl : l.length ≤ 1000000) (hz : ∀ s ∈ l, s.size ≤ 1000000) (X : ByteArray × Int) :
    ∀ (n i : Nat), l.length - i ≤ n → i ≤ l.length → ((l.drop i).any bad = false → Ev (fun k => temporef25_Wrap.l2 k l width (⟨#[]⟩ : ByteArray) 0 0) X) → Ev (fun k => temporef25_Wrap.l0 k l width (i : Int)) (if (l.drop i).any bad = true then ((⟨#[]⟩ : ByteArray), (2 : Int)) else X) := by
  have fin : ∀ i : Nat, ¬ i < l.length → ((l.drop i).any bad = false → Ev (fun k => temporef25_Wrap.l2 k l width (⟨#[]⟩ : ByteArray) 0 0) X) → Ev (fun k => temporef25_Wrap.l0 k l width (i : Int)) (if (l.drop i).any bad = true then ((⟨#[]⟩ : ByteArray), (2 : Int)) else X) := by
    intro i hlt hX
    refine Ev.step (fun k => by rw [temporef25_Wrap.l0]) ?_
    rw [List.drop_eq_nil_of_le (by omega)] at hX ⊢
    simp only [if_neg (show ¬ (i : Int) < (l.length : Int) by omega), List.any_nil, Bool.false_eq_true, if_false]
    exact hX rfl
  intro n
  induction n with
  | zero => intro i hi hil hX; exact fin i (by omega) hX
  | succ n ih =>
    intro i hi hil hX
    by_cases hlt : i < l.length
    · refine Ev.step (fun k => by rw [temporef25_Wrap.l0]) ?_
      rw [drop_at l i hlt, List.any_cons] at hX ⊢
      simp only [if_pos (show (i : Int) < (l.length : Int) by omega), if_pos (show (0 : Int) ≤ i by omega), rd_at l i hlt, empty_list]
      by_cases h0 : l[i].size = 0
      · have hb : bad l[i] = true := by unfold bad; rw [decide_eq_true h0]; rfl
        simp only [if_pos h0, hb, Bool.true_or, if_true]
        exact Ev.now _
      · simp only [if_neg h0]
        have hb : bad l[i] = l[i].data.toList.any blankB := by unfold bad; rw [decide_eq_false h0]; rfl
        rw [hb] at hX ⊢
        have h1 := l1_ev l width i hlt (hz _ (List.getElem_mem hlt)) (if (l.drop (i + 1)).any bad = true then ((⟨#[]⟩ : ByteArray), (2 : Int)) else X) l[i].size 0 (by omega) (by omega) (fun hnb => by
          rw [List.drop_zero] at hnb
          have hN := ih (i + 1) (by omega) (by omega) (fun hr => hX (by rw [hnb, hr]; rfl))
          rw [← step1 i (by omega)] at hN
          exact hN)
        rw [List.drop_zero] at h1
        cases hc : l[i].data.toList.any blankB with
        | true => rw [hc] at h1; simpa using h1
        | false => rw [hc] at h1; simpa using h1
    · exact fin i hlt hX
theorem wrapL_bad (width : Int) : ∀ (l : List ByteArray) (acc : List UInt8) (line : Nat), l.any bad = true → wrapL width l acc line = none
  | [], _, _, h => by simp at h
  | w :: ws, acc, line, h => by
    rw [wrapL]
    by_cases hw : w.size = 0 ∨ blankF w = true
    · rw [if_pos hw]
    · rw [if_neg hw]
      have hb : bad w = false := by unfold bad; rw [decide_eq_false (fun e => hw (.inl e))]; simpa using fun e => hw (.inr e)
      rw [List.any_cons, hb, Bool.false_or] at h
      split
      · exact wrapL_bad width ws _ _ h
      · split
        · exact wrapL_bad width ws _ _ h
        · exact wrapL_bad width ws _ _ h
theorem app_ba (acc : List UInt8) (b : UInt8) (w : ByteArray) : ((⟨acc.toArray⟩ : ByteArray) ++ (⟨#[b]⟩ : ByteArray)) ++ w = ⟨(acc ++ b :: w.data.toList).toArray⟩ := by apply ba_ext; simp
theorem size_app (a b : ByteArray) : (a ++ b).size = a.size + b.size := by simp [ByteArray.size_append]
theorem size_ls (acc : List UInt8) : (⟨acc.toArray⟩ : ByteArray).size = acc.length := by rw [size_eq]
theorem l2_ev (l : List ByteArray) (width : Int) (hl : l.length ≤ 1000000) :
    ∀ (n i : Nat) (acc : List UInt8) (line : Nat), l.length - i ≤ n → i ≤ l.length → (l.drop i).any bad = false → (i = 0 → acc = [] ∧ line = 0) → (i ≠ 0 → acc ≠ [] ∧ line ≠ 0) → line ≤ acc.length → acc.length + cost (l.drop i) ≤ 1000000 →
      Ev (fun k => temporef25_Wrap.l2 k l width (⟨acc.toArray⟩ : ByteArray) (line : Int) (i : Int)) (wrapR (wrapL width (l.drop i) acc line)) := by
  have fin : ∀ (i : Nat) (acc : List UInt8) (line : Nat), ¬ i < l.length → (i = 0 → acc = [] ∧ line = 0) → (i ≠ 0 → acc ≠ [] ∧ line ≠ 0) → acc.length ≤ 1000000 → Ev (fun k => temporef25_Wrap.l2 k l width (⟨acc.toArray⟩ : ByteArray) (line : Int) (i : Int)) (wrapR (wrapL width (l.drop i) acc line)) := by
    intro i acc line hlt h0 h1 hc
    rw [List.drop_eq_nil_of_le (by omega), wrapL]
    refine Ev.step (fun k => by rw [temporef25_Wrap.l2]) ?_
    simp only [if_neg (show ¬ (i : Int) < (l.length : Int) by omega), empty_list, size_ls]
    by_cases hi : i = 0
    · obtain ⟨rfl, rfl⟩ := h0 hi
      simp only [List.length_nil, if_true]
      exact Ev.now _
    · obtain ⟨ha, hb⟩ := h1 hi
      have hne : ¬ acc.length = 0 := fun e => ha (List.eq_nil_of_length_eq_zero e)
      simp only [if_neg hne, if_pos (show acc.length + 1 ≤ 9223372036854775807 by omega)]
      unfold wrapR
      simp only [if_pos (show 0 < line by omega)]
      have e : (⟨acc.toArray⟩ : ByteArray) ++ (⟨#[10]⟩ : ByteArray) = ⟨(acc ++ [10]).toArray⟩ := by apply ba_ext; simp
      rw [e]
      exact Ev.now _
  intro n
  induction n with
  | zero => intro i acc line hi hil hb h0 h1 hline hc; exact fin i acc line (by omega) h0 h1 (by omega)
  | succ n ih =>
    intro i acc line hi hil hb h0 h1 hline hc
    by_cases hlt : i < l.length
    · have hb' := hb
      have hc' := hc
      rw [drop_at l i hlt, List.any_cons, Bool.or_eq_false_iff] at hb'
      rw [drop_at l i hlt, cost] at hc'
      obtain ⟨hbw, hbr⟩ := hb'
      have hsz : l[i].size ≠ 0 := fun e => by unfold bad at hbw; rw [decide_eq_true e] at hbw; cases hbw
      have hbl : blankF l[i] = false := by unfold bad at hbw; exact (Bool.or_eq_false_iff.1 hbw).2
      have hne : ∀ x : List UInt8, x ++ l[i].data.toList ≠ [] := fun x e => hsz (by rw [size_eq]; have := congrArg List.length e; rw [List.length_append] at this; simp only [List.length_nil] at this; omega)
      rw [drop_at l i hlt, wrapL, if_neg (show ¬ (l[i].size = 0 ∨ blankF l[i] = true) by rw [hbl]; simp [hsz])]
      refine Ev.step (fun k => by rw [temporef25_Wrap.l2]) ?_
      simp only [if_pos (show (i : Int) < (l.length : Int) by omega), if_pos (show (0 : Int) ≤ i by omega), rd_at l i hlt, step1 i (by omega), size_app, size_ls, List.length_cons, List.length_nil, Nat.zero_add]
      by_cases hi0 : i = 0
      · obtain ⟨rfl, rfl⟩ := h0 hi0
        subst hi0
        simp only [if_pos (show ((0 : Nat) : Int) = 0 from rfl), if_true]
        rw [Nat.zero_add] at hc'
        have e : l[0] = ⟨([] ++ l[0].data.toList).toArray⟩ := by apply ba_ext; simp
        have h := ih 1 ([] ++ l[0].data.toList) l[0].size (by omega) (by omega) hbr (by omega) (fun _ => ⟨hne _, hsz⟩) (by rw [List.length_append, ← size_eq]; omega) (by rw [List.length_append, ← size_eq]; simp only [List.length_nil]; omega)
        rw [← e] at h
        exact h
      · obtain ⟨ha, hb⟩ := h1 hi0
        simp only [if_neg (show ¬ (i : Int) = 0 by omega), if_neg hb]
        have w1 : wrap64 ((line : Int) + 1) = ((line + 1 : Nat) : Int) := step1 line (by omega)
        have w2 : wrap64 (((line + 1 : Nat) : Int) + (l[i].size : Int)) = ((line + 1 + l[i].size : Nat) : Int) := by rw [IntWalk.wrap64_in _ (by omega)]; omega
        obtain ⟨z, hz⟩ : ∃ z, l[i].size = z := ⟨_, rfl⟩
        obtain ⟨y, hy⟩ : ∃ y, cost (l.drop (i + 1)) = y := ⟨_, rfl⟩
        obtain ⟨a, hya⟩ : ∃ a, acc.length = a := ⟨_, rfl⟩
        rw [hz, hy, hya] at hc'
        have q1 : acc.length + 1 ≤ 9223372036854775807 := by rw [hya]; exact Nat.le_trans (show a + 1 ≤ 1000001 by omega) (by decide)
        have q2 : acc.length + 1 + l[i].size ≤ 9223372036854775807 := by rw [hya, hz]; exact Nat.le_trans (show a + 1 + z ≤ 1000000 by omega) (by decide)
        simp only [w1, w2, eq_true q1, eq_true q2, if_true, app_ba]
        have e32 : acc ++ (32 : UInt8) :: l[i].data.toList = (acc ++ [32]) ++ l[i].data.toList := by simp
        have e10 : acc ++ (10 : UInt8) :: l[i].data.toList = (acc ++ [10]) ++ l[i].data.toList := by simp
        by_cases hw : (line : Int) + 1 + l[i].size ≤ width
        · simp only [if_pos hw, if_pos (show ((line + 1 + l[i].size : Nat) : Int) ≤ width by omega), e32]
          exact ih (i + 1) _ _ (by omega) (by omega) hbr (by omega) (fun _ => ⟨hne _, by omega⟩) (by rw [List.length_append, List.length_append, ← size_eq]; simp only [List.length_cons, List.length_nil]; omega) (by rw [List.length_append, List.length_append, ← size_eq]; simp only [List.length_cons, List.length_nil]; omega)
        · simp only [if_neg hw, if_neg (show ¬ ((line + 1 + l[i].size : Nat) : Int) ≤ width by omega), e10]
          exact ih (i + 1) _ _ (by omega) (by omega) hbr (by omega) (fun _ => ⟨hne _, by omega⟩) (by rw [List.length_append, List.length_append, ← size_eq]; simp only [List.length_cons, List.length_nil]; omega) (by rw [List.length_append, List.length_append, ← size_eq]; simp only [List.length_cons, List.length_nil]; omega)
    · exact fin i acc line hlt h0 h1 (by omega)
theorem cost_ge : ∀ l : List ByteArray, l.length ≤ cost l
  | [] => Nat.zero_le _
  | w :: ws => by have := cost_ge ws; rw [cost, List.length_cons]; omega
theorem wrap_ev (l : List ByteArray) (width : Int) (hc : cost l ≤ 1000000) : ∃ R, wrapG l width = some R ∧ Ev (fun k => temporef25_Wrap.f k l width) R := by
  have hl : l.length ≤ 1000000 := Nat.le_trans (cost_ge l) hc
  have hz : ∀ s ∈ l, s.size ≤ 1000000 := fun s hs => Nat.le_trans (cost_mem hs) hc
  have hT : Ev (fun k => temporef25_Wrap.j0 k l width true) ((⟨#[]⟩ : ByteArray), (2 : Int)) := Ev.step (fun k => by rw [temporef25_Wrap.j0]) (by simp only [↓reduceIte]; exact Ev.now _)
  unfold temporef25_Wrap.f wrapG
  by_cases h1 : width < 1
  · rw [if_pos (.inl h1)]
    refine ⟨_, rfl, ?_⟩
    simp only [if_pos h1]
    exact hT
  · by_cases h2 : 255 < width
    · rw [if_pos (.inr h2)]
      refine ⟨_, rfl, ?_⟩
      simp only [if_neg h1, decide_eq_true (show width > 255 from h2)]
      exact hT
    · rw [if_neg (by omega), if_pos hc]
      refine ⟨_, rfl, ?_⟩
      simp only [if_neg h1, decide_eq_false (show ¬ width > 255 from h2)]
      refine Ev.step (fun k => by rw [temporef25_Wrap.j0]) ?_
      simp only [Bool.false_eq_true, if_false]
      have h := l0_ev l width hl hz (wrapR (wrapL width l [] 0)) l.length 0 (by omega) (by omega) (fun hb => by
        have h2 := l2_ev l width hl l.length 0 [] 0 (by omega) (by omega) hb (fun _ => ⟨rfl, rfl⟩) (fun h => absurd rfl h) (by omega) (by rw [List.drop_zero]; simp only [List.length_nil]; omega)
        rw [List.drop_zero] at h2
        exact h2)
      rw [List.drop_zero] at h
      cases hb : l.any bad with
      | true =>
        rw [wrapL_bad width l [] 0 hb]
        rw [hb] at h
        show Ev _ ((⟨#[]⟩ : ByteArray), (2 : Int))
        simpa using h
      | false =>
        rw [hb] at h
        simpa using h

/-! ### the law -/
def total (l : List ByteArray) : Nat := (l.map ByteArray.size).sum
theorem total_le (B : Nat) : ∀ l : List ByteArray, (∀ s ∈ l, s.size ≤ B) → total l ≤ l.length * B
  | [], _ => by simp [total]
  | s :: r, h => by
    have h1 := total_le B r (fun x hx => h x (List.mem_cons_of_mem _ hx))
    have h2 := h s (List.mem_cons_self ..)
    unfold total at *
    rw [List.map_cons, List.sum_cons, List.length_cons, Nat.succ_mul]
    omega
theorem cost_total : ∀ l : List ByteArray, cost l = total l + l.length
  | [] => rfl
  | s :: r => by have h := cost_total r; unfold total at *; rw [cost, List.map_cons, List.sum_cons, List.length_cons, h]; omega
theorem total_take (l : List ByteArray) (i : Nat) (h : i < l.length) : total (l.take (i + 1)) = total (l.take i) + l[i].size := by
  unfold total
  rw [List.take_succ_eq_append_getElem h, List.map_append, List.sum_append]
  simp
theorem loop_ev (x0 : List ByteArray) (x1 x2 x3 : Int) (x4 : Bool) (L : List ByteArray) (hL : L.length ≤ 201) (hz : ∀ s ∈ L, s.size ≤ 140737488351232)
    (hF : Ev (fun k => if (x0.length : Int) > 200 then (tempolaw25_MovetextWrites.j1 k x0 x1 x2 x3 x4 true) else (tempolaw25_MovetextWrites.j1 k x0 x1 x2 x3 x4 (decide ((total L : Int) > 3000)))) true) :
    ∀ (n i : Nat), L.length - i ≤ n → i ≤ L.length → Ev (fun k => tempolaw25_MovetextWrites.l0 k x0 x1 x2 x3 x4 (total (L.take i) : Int) L (L.length : Int) (i : Int)) true := by
  have fin : ∀ i : Nat, i ≤ L.length → ¬ i < L.length → Ev (fun k => tempolaw25_MovetextWrites.l0 k x0 x1 x2 x3 x4 (total (L.take i) : Int) L (L.length : Int) (i : Int)) true := by
    intro i h1 h2
    refine Ev.step (fun k => by rw [tempolaw25_MovetextWrites.l0]) ?_
    rw [List.take_of_length_le (by omega)]
    simp only [if_neg (show ¬ (i : Int) < (L.length : Int) by omega)]
    exact hF
  intro n
  induction n with
  | zero => intro i hi hil; exact fin i hil (by omega)
  | succ n ih =>
    intro i hi hil
    by_cases hlt : i < L.length
    · refine Ev.step (fun k => by rw [tempolaw25_MovetextWrites.l0]) ?_
      have ht := total_le 140737488351232 (L.take (i + 1)) (fun s hs => hz s (List.mem_of_mem_take hs))
      have hlen : (L.take (i + 1)).length ≤ 201 := by rw [List.length_take]; omega
      have hm : (L.take (i + 1)).length * 140737488351232 ≤ 201 * 140737488351232 := Nat.mul_le_mul_right _ hlen
      have hN := ih (i + 1) (by omega) (by omega)
      rw [total_take L i hlt] at hN ht
      have w1 : wrap64 ((total (L.take i) : Int) + (L[i].size : Int)) = ((total (L.take i) + L[i].size : Nat) : Int) := by rw [IntWalk.wrap64_in _ (by omega)]; omega
      simp only [if_pos (show (i : Int) < (L.length : Int) by omega), if_pos (show (0 : Int) ≤ i by omega), rd_at L i hlt, step1 i (by omega), w1]
      exact hN
    · exact fin i hil hlt
/-- THE LAW'S PLAIN PART. -/
theorem MovetextWrites (l : List ByteArray) (width full turn : Int) (first : Bool) (hz : ∀ s ∈ l, s.size ≤ 140737488351232) : ∃ k, tempolaw25_MovetextWrites.f k l width full turn first = some true := by
  have hJ : Ev (fun k => tempolaw25_MovetextWrites.j1 k l width full turn first true) true :=
    Ev.step (fun k => by rw [tempolaw25_MovetextWrites.j1]) (by simp only [↓reduceIte]; exact Ev.now _)
  have hmn : mn (l.length : Int) 201 = ((l.take 201).length : Int) := by unfold mn; rw [List.length_take]; split <;> omega
  have hlen : (l.take 201).length ≤ l.length := by rw [List.length_take]; omega
  have hlen2 : (l.take 201).length ≤ 201 := by rw [List.length_take]; omega
  have htk : l.take (l.take 201).length = l.take 201 := by
    rw [List.length_take]
    by_cases h : 201 ≤ l.length
    · rw [Nat.min_eq_left h]
    · rw [Nat.min_eq_right (by omega), List.take_of_length_le (Nat.le_refl _), List.take_of_length_le (by omega)]
  have hF : Ev (fun k => if (l.length : Int) > 200 then (tempolaw25_MovetextWrites.j1 k l width full turn first true) else (tempolaw25_MovetextWrites.j1 k l width full turn first (decide ((total (l.take 201) : Int) > 3000)))) true := by
    by_cases h200 : (l.length : Int) > 200
    · simp only [if_pos h200]; exact hJ
    · simp only [if_neg h200]
      by_cases h3 : (total (l.take 201) : Int) > 3000
      · simp only [decide_eq_true h3]; exact hJ
      · simp only [decide_eq_false h3]
        rw [List.take_of_length_le (by omega)] at h3
        have hc : cost l ≤ 1000000 := by rw [cost_total]; omega
        obtain ⟨R, hR, hE⟩ := wrap_ev l width hc
        refine Ev.step (fun k => by rw [tempolaw25_MovetextWrites.j1]) ?_
        simp only [Bool.false_eq_true, if_false, slices_Clone_string_string.f, if_pos (show l.length ≤ 4398046511104 by omega), Option.bind_some, movetext_Wrap.f, hR]
        refine Ev.bind hE ?_
        simp only [movetext_Number.f, Option.bind_some]
        refine Ev.bind (number_ev full turn first) ?_
        simp only [if_true]
        refine Ev.bind (eqS_all l (by omega)) ?_
        simp only [if_true]
        exact Ev.now _
  have h := loop_ev l width full turn first (l.take 201) hlen2 (fun s hs => hz s (List.mem_of_mem_take hs)) hF _ 0 (Nat.le_refl _) (by omega)
  obtain ⟨K, hK⟩ := h
  refine ⟨K, ?_⟩
  unfold tempolaw25_MovetextWrites.f
  rw [hmn, if_pos (by omega), if_pos (by omega), Int.toNat_natCast, htk]
  exact hK K (Nat.le_refl _)
end Go.Proofs.YtlpoglkddknedaaDoor.Q

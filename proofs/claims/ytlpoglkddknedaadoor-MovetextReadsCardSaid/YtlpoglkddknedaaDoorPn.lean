/- The plain laws of the moves: the document's Parse answers as parseN does. No program in sight. · The plain laws of the tags: the document's Tags answers as tagsN does; and the plain law of MovetextReads. -/
import Derived.Test.YtlpoglkddknedaaDoorHm
import Derived.Test.YtlpoglkddknedaaDoorTx19
import Derived.Test.YtlpoglkddknedaaDoorTx21
import Derived.IntWalk
import Derived.Lib.Strings
import Derived.Lib.UnsafeStr
import Derived.Test.YtlpoglkddknedaaDoorTx22
import Derived.Test.YtlpoglkddknedaaDoorHq
namespace Go.Proofs.YtlpoglkddknedaaDoor.P
open Go.RowKit Go.Proofs.YtlpoglkddknedaaDoor.T Go.Proofs.YtlpoglkddknedaaDoor.H Go.Proofs.YtlpoglkddknedaaDoorW.PrintWords Go.Proofs.YtlpoglkddknedaaDoorW.PrintLast
set_option linter.unusedVariables false
set_option linter.unusedSimpArgs false

def cv (x : S46) : S101 := ⟨x.f0, x.f1, x.f2⟩
theorem rd_cv (l : List S46) (i : Nat) (h : i < l.length) : rd_T101 (l.map cv) (i : Int) = cv l[i] := by unfold rd_T101; simp [h]
theorem step1 (j : Nat) (h : j < 9223372036854775000) : wrap64 ((j : Int) + 1) = ((j + 1 : Nat) : Int) := by rw [IntWalk.wrap64_in _ (by omega)]; rfl

theorem varS_two : ∀ (l : List S46) (a b : Nat), 1 ≤ a → 1 ≤ b → varS l (a + b) = (varS l a).bind fun n => (varS (l.drop n) b).map (· + n)
  | [], a, b, _, _ => by simp [varS]
  | t :: r, a, b, ha, hb => by
    have ih := varS_two r
    rw [varS, varS]
    by_cases h7 : t.f0 = 7
    · rw [if_pos h7, if_pos h7, show a + b + 1 = (a + 1) + b by omega, ih (a + 1) b (by omega) hb]
      cases varS r (a + 1) with
      | none => rfl
      | some n => simp only [Option.bind_some, Option.map_some, List.drop_succ_cons, Option.map_map]; congr 1
    · rw [if_neg h7, if_neg h7]
      by_cases h8 : t.f0 = 8
      · rw [if_pos h8, if_pos h8, if_neg (by omega)]
        by_cases h1 : a ≤ 1
        · obtain rfl : a = 1 := by omega
          rw [if_pos (Nat.le_refl _), show 1 + b - 1 = b by omega]
          simp
        · rw [if_neg h1, show a + b - 1 = (a - 1) + b by omega, ih (a - 1) b (by omega) hb]
          cases varS r (a - 1) with
          | none => rfl
          | some n => simp only [Option.bind_some, Option.map_some, List.drop_succ_cons, Option.map_map]; congr 1
      · rw [if_neg h8, if_neg h8]
        by_cases hp : t.f0 = 2 ∨ t.f0 = 3 ∨ t.f0 = 4 ∨ t.f0 = 9 ∨ t.f0 = 10 ∨ t.f0 = 11
        · rw [if_pos hp, if_pos hp, ih a b ha hb]
          cases varS r a with
          | none => rfl
          | some n => simp only [Option.bind_some, Option.map_some, List.drop_succ_cons, Option.map_map]; congr 1
        · rw [if_neg hp, if_neg hp]; rfl

theorem passed_ev (z : Int) : Ev (fun _ => temporef25_passed.f z) (decide (z = 2 ∨ z = 3 ∨ z = 4 ∨ z = 9 ∨ z = 10 ∨ z = 11)) := by
  unfold temporef25_passed.f
  by_cases h2 : z = 2
  · simp only [h2, if_true]; exact Ev.now _
  · by_cases h3 : z = 3
    · simp only [h3]; exact Ev.now _
    · by_cases h4 : z = 4
      · simp only [h4]; exact Ev.now _
      · by_cases h9 : z = 9
        · simp only [h9]; exact Ev.now _
        · by_cases h10 : z = 10
          · simp only [h10]; exact Ev.now _
          · simp only [if_neg h2, if_neg h3, if_neg h4, if_neg h9, if_neg h10]
            have e : (z == 11) = decide (z = 2 ∨ z = 3 ∨ z = 4 ∨ z = 9 ∨ z = 10 ∨ z = 11) := by
              by_cases h : z = 11 <;> simp [h, h2, h3, h4, h9, h10]
            rw [e]
            exact Ev.now _

theorem var_ev (l : List S46) (hl : l.length ≤ 100000) : ∀ n i : Nat, l.length - i ≤ n → i ≤ l.length →
    Ev (fun k => temporef25_variation.l0 k (l.map cv) (i : Int)) (match varS (l.drop i) 1 with | some m => ((i + m : Nat) : Int) | none => -1) := by
  intro n
  induction n using Nat.strongRecOn with
  | _ n ih =>
    intro i h1 h2
    by_cases hi : i < l.length
    · refine Ev.step (fun k => by rw [temporef25_variation.l0]) ?_
      have hd : l.drop i = l[i] :: l.drop (i + 1) := List.drop_eq_getElem_cons hi
      simp only [if_pos (show (i : Int) < ((l.map cv).length : Int) by rw [List.length_map]; omega), if_pos (show (0 : Int) ≤ i by omega), rd_cv l i hi, step1 i (by omega)]
      rw [hd, varS]
      show Ev (fun k => if l[i].f0 = 8 then _ else if l[i].f0 = 7 then _ else (temporef25_passed.f l[i].f0).bind _) _
      by_cases h8 : l[i].f0 = 8
      · simp only [if_pos h8, if_neg (show ¬ l[i].f0 = 7 by omega), if_pos (Nat.le_refl 1)]
        exact Ev.now _
      · by_cases h7 : l[i].f0 = 7
        · simp only [if_neg h8, if_pos h7]
          have hin := ih (n - 1) (by omega) (i + 1) (by omega) (by omega)
          have hf : Ev (fun k => temporef25_variation.f k (l.map cv) (i : Int)) (match varS (l.drop (i + 1)) 1 with | some m => ((i + 1 + m : Nat) : Int) | none => -1) := by
            refine Ev.step (fun k => by rw [temporef25_variation.f, step1 i (by omega)]) hin
          refine Ev.bind hf ?_
          rw [varS_two (l.drop (i + 1)) 1 1 (Nat.le_refl _) (Nat.le_refl _)]
          cases hv : varS (l.drop (i + 1)) 1 with
          | none => simp only [Option.bind_none, Option.map_none, if_pos (show (-1 : Int) < 0 by decide)]; exact Ev.now _
          | some m =>
            have hm := varS_le _ _ _ hv
            rw [List.length_drop] at hm
            simp only [Option.bind_some, if_neg (show ¬ ((i + 1 + m : Nat) : Int) < 0 by omega)]
            have h3 := ih (n - 1 - m) (by omega) (i + 1 + m) (by omega) (by omega)
            rw [List.drop_drop]
            cases hw : varS (l.drop (i + 1 + m)) 1 with
            | none => rw [hw] at h3; exact h3
            | some q => rw [hw] at h3; simp only [Option.map_some]; rw [show i + (q + m + 1) = i + 1 + m + q by omega]; exact h3
        · simp only [if_neg h8, if_neg h7]
          refine Ev.bind (passed_ev _) ?_
          by_cases hp : l[i].f0 = 2 ∨ l[i].f0 = 3 ∨ l[i].f0 = 4 ∨ l[i].f0 = 9 ∨ l[i].f0 = 10 ∨ l[i].f0 = 11
          · simp only [decide_eq_true hp, if_pos hp, ↓reduceIte]
            have h3 := ih (n - 1) (by omega) (i + 1) (by omega) (by omega)
            cases hw : varS (l.drop (i + 1)) 1 with
            | none => rw [hw] at h3; exact h3
            | some q => rw [hw] at h3; simp only [Option.map_some]; rw [show i + (q + 1) = i + 1 + q by omega]; exact h3
          · simp only [decide_eq_false hp, if_neg hp, Bool.false_eq_true, ↓reduceIte]
            exact Ev.now _
    · refine Ev.step (fun k => by rw [temporef25_variation.l0]) ?_
      simp only [if_neg (show ¬ (i : Int) < ((l.map cv).length : Int) by rw [List.length_map]; omega)]
      rw [List.drop_eq_nil_of_le (by omega), varS]
      exact Ev.now _

theorem bt_nat (s : ByteArray) (i : Nat) (h : i < s.size) : bt s (i : Int) = ((s.data.toList[i]'(by rw [Array.length_toList]; exact h)).toNat : Int) := by
  unfold bt
  rw [dif_pos (show (i : Int).toNat < s.size by rw [Int.toNat_natCast]; exact h)]
  simp only [Int.toNat_natCast, Array.getElem_toList]
  rfl
theorem num_ev (s : ByteArray) (hs : s.size ≤ 9223372036854775807) : ∀ n i : Nat, s.size - i ≤ n → i ≤ s.size →
    Ev (fun k => temporef25_number.l0 k s (i : Int)) ((s.data.toList.drop i).all (fun b => decide (48 ≤ b.toNat ∧ b.toNat ≤ 57)) && (s.toList != ([] : List UInt8))) := by
  intro n
  have hl : s.data.toList.length = s.size := Array.length_toList
  induction n with
  | zero =>
    intro i h1 h2
    refine Ev.step (fun k => by rw [temporef25_number.l0]) ?_
    simp only [if_neg (show ¬ (i : Int) < (s.size : Int) by omega)]
    rw [List.drop_eq_nil_of_le (by omega), List.all_nil, Bool.true_and]
    exact Ev.now _
  | succ n ih =>
    intro i h1 h2
    by_cases hi : i < s.size
    · refine Ev.step (fun k => by rw [temporef25_number.l0]) ?_
      have hd : s.data.toList.drop i = s.data.toList[i]'(by omega) :: s.data.toList.drop (i + 1) := List.drop_eq_getElem_cons (by omega)
      simp only [if_pos (show (i : Int) < (s.size : Int) by omega), if_pos (show (0 : Int) ≤ i by omega), bt_nat s i hi]
      rw [hd, List.all_cons]
      generalize hb : s.data.toList[i]'(by omega) = b
      by_cases h48 : ((b.toNat : Nat) : Int) < 48
      · simp only [if_pos h48, decide_eq_false (show ¬ (48 ≤ b.toNat ∧ b.toNat ≤ 57) by omega), Bool.false_and]
        exact Ev.now _
      · by_cases h57 : ((b.toNat : Nat) : Int) > 57
        · simp only [if_neg h48, if_pos h57, decide_eq_false (show ¬ (48 ≤ b.toNat ∧ b.toNat ≤ 57) by omega), Bool.false_and]
          exact Ev.now _
        · have hw : wrap64 ((i : Int) + 1) = ((i + 1 : Nat) : Int) := by rw [IntWalk.wrap64_in _ (by omega)]; rfl
          simp only [if_neg h48, if_neg h57, decide_eq_true (show 48 ≤ b.toNat ∧ b.toNat ≤ 57 by omega), Bool.true_and, hw]
          exact ih (i + 1) (by omega) (by omega)
    · refine Ev.step (fun k => by rw [temporef25_number.l0]) ?_
      simp only [if_neg (show ¬ (i : Int) < (s.size : Int) by omega)]
      rw [List.drop_eq_nil_of_le (by omega), List.all_nil, Bool.true_and]
      exact Ev.now _
theorem number_ev (s : ByteArray) (hs : s.size ≤ 9223372036854775807) : Ev (fun k => temporef25_number.f k s) (numF s) := by
  have h := num_ev s hs s.size 0 (by omega) (by omega)
  have e : ((s.data.toList.drop 0).all (fun b => decide (48 ≤ b.toNat ∧ b.toNat ≤ 57)) && (s.toList != ([] : List UInt8))) = numF s := by
    unfold numF
    rw [List.drop_zero, Lib.toList_data, Bool.and_comm]
    congr 1
    cases s.data.toList <;> rfl
  rw [e] at h
  exact h

/-- The document's result of a token. -/
def rs (z : Int) (s : ByteArray) : Int := if z = 4 then 0 else if z = 2 ∧ 1 ≤ resF s then resF s else -1
theorem result_ev (z : Int) (s : ByteArray) (y : Int) : Ev (fun k => temporef25_result.f k z s y) (rs z s) := by
  unfold temporef25_result.f rs
  by_cases h4 : z = 4
  · simp only [if_pos h4]; exact Ev.now _
  · simp only [if_neg h4]
    have e1 : wrap64 ((1 : Int) + 1) = 2 := step1 1 (by decide)
    have e2 : wrap64 ((2 : Int) + 1) = 3 := step1 2 (by decide)
    have e3 : wrap64 ((3 : Int) + 1) = 4 := step1 3 (by decide)
    by_cases h2 : z = 2
    · subst h2
      have r1 : (rdOf ByteArray.empty ([(⟨#[]⟩ : ByteArray), ⟨#[49, 45, 48]⟩, ⟨#[48, 45, 49]⟩, ⟨#[49, 47, 50, 45, 49, 47, 50]⟩] : List ByteArray) 1).toList = [49, 45, 48] := by show (⟨#[49, 45, 48]⟩ : ByteArray).toList = _; rw [Lib.toList_data]
      have r2 : (rdOf ByteArray.empty ([(⟨#[]⟩ : ByteArray), ⟨#[49, 45, 48]⟩, ⟨#[48, 45, 49]⟩, ⟨#[49, 47, 50, 45, 49, 47, 50]⟩] : List ByteArray) 2).toList = [48, 45, 49] := by show (⟨#[48, 45, 49]⟩ : ByteArray).toList = _; rw [Lib.toList_data]
      have r3 : (rdOf ByteArray.empty ([(⟨#[]⟩ : ByteArray), ⟨#[49, 45, 48]⟩, ⟨#[48, 45, 49]⟩, ⟨#[49, 47, 50, 45, 49, 47, 50]⟩] : List ByteArray) 3).toList = [49, 47, 50, 45, 49, 47, 50] := by show (⟨#[49, 47, 50, 45, 49, 47, 50]⟩ : ByteArray).toList = _; rw [Lib.toList_data]
      unfold resF
      refine Ev.step (fun k => by rw [temporef25_result.l0]) ?_
      simp only [if_pos (show (1 : Int) < 4 by decide), ↓reduceIte, if_pos (show (0 : Int) ≤ 1 by decide), if_pos (show (1 : Int) < (([(⟨#[]⟩ : ByteArray), ⟨#[49, 45, 48]⟩, ⟨#[48, 45, 49]⟩, ⟨#[49, 47, 50, 45, 49, 47, 50]⟩] : List ByteArray).length : Int) by decide), r1, e1, true_and]
      by_cases c1 : s.toList = [49, 45, 48]
      · simp only [c1, ↓reduceIte]
        exact Ev.now _
      · simp only [if_neg c1]
        refine Ev.step (fun k => by rw [temporef25_result.l0]) ?_
        simp only [if_pos (show (2 : Int) < 4 by decide), ↓reduceIte, if_pos (show (0 : Int) ≤ 2 by decide), if_pos (show (2 : Int) < (([(⟨#[]⟩ : ByteArray), ⟨#[49, 45, 48]⟩, ⟨#[48, 45, 49]⟩, ⟨#[49, 47, 50, 45, 49, 47, 50]⟩] : List ByteArray).length : Int) by decide), r2, e2]
        by_cases c2 : s.toList = [48, 45, 49]
        · simp only [c2, ↓reduceIte]
          exact Ev.now _
        · simp only [if_neg c2]
          refine Ev.step (fun k => by rw [temporef25_result.l0]) ?_
          simp only [if_pos (show (3 : Int) < 4 by decide), ↓reduceIte, if_pos (show (0 : Int) ≤ 3 by decide), if_pos (show (3 : Int) < (([(⟨#[]⟩ : ByteArray), ⟨#[49, 45, 48]⟩, ⟨#[48, 45, 49]⟩, ⟨#[49, 47, 50, 45, 49, 47, 50]⟩] : List ByteArray).length : Int) by decide), r3, e3]
          by_cases c3 : s.toList = [49, 47, 50, 45, 49, 47, 50]
          · simp only [c3, ↓reduceIte]
            exact Ev.now _
          · simp only [if_neg c3]
            refine Ev.step (fun k => by rw [temporef25_result.l0]) ?_
            simp only [if_neg (show ¬ (4 : Int) < 4 by decide)]
            by_cases c0 : s.toList = [42]
            · simp only [c0, ↓reduceIte]; exact Ev.now _
            · simp only [if_neg c0]; exact Ev.now _
    · simp only [h2, false_and, ↓reduceIte]
      refine Ev.step (fun k => by rw [temporef25_result.l0]) ?_
      simp only [if_pos (show (1 : Int) < 4 by decide), if_neg h2, e1]
      refine Ev.step (fun k => by rw [temporef25_result.l0]) ?_
      simp only [if_pos (show (2 : Int) < 4 by decide), if_neg h2, e2]
      refine Ev.step (fun k => by rw [temporef25_result.l0]) ?_
      simp only [if_pos (show (3 : Int) < 4 by decide), if_neg h2, e3]
      refine Ev.step (fun k => by rw [temporef25_result.l0]) ?_
      simp only [if_neg (show ¬ (4 : Int) < 4 by decide)]
      exact Ev.now _

theorem dots_ev (l : List S46) (hl : l.length ≤ 100000) (ms : List ByteArray) (R : List ByteArray × Int × Int × Int) : ∀ n i : Nat, l.length - i ≤ n → i ≤ l.length →
    Ev (fun k => temporef25_Parse.l0 k (l.map cv) ((i + lead 3 (l.drop i) : Nat) : Int) ms 0) R → Ev (fun k => temporef25_Parse.l1 k (l.map cv) (i : Int) ms 0) R := by
  intro n
  induction n with
  | zero =>
    intro i h1 h2 h
    refine Ev.step (fun k => by rw [temporef25_Parse.l1]) ?_
    simp only [if_neg (show ¬ (i : Int) < ((l.map cv).length : Int) by rw [List.length_map]; omega)]
    rw [List.drop_eq_nil_of_le (by omega), lead, Nat.add_zero] at h
    exact h
  | succ n ih =>
    intro i h1 h2 h
    by_cases hi : i < l.length
    · refine Ev.step (fun k => by rw [temporef25_Parse.l1]) ?_
      have hd : l.drop i = l[i] :: l.drop (i + 1) := List.drop_eq_getElem_cons hi
      simp only [if_pos (show (i : Int) < ((l.map cv).length : Int) by rw [List.length_map]; omega), if_pos (show (0 : Int) ≤ i by omega), rd_cv l i hi, step1 i (by omega)]
      rw [hd, lead] at h
      show Ev (fun k => if l[i].f0 = 3 then _ else _) _
      by_cases h3 : l[i].f0 = 3
      · simp only [if_pos h3] at h ⊢
        refine ih (i + 1) (by omega) (by omega) ?_
        rw [show i + 1 + lead 3 (l.drop (i + 1)) = i + (lead 3 (l.drop (i + 1)) + 1) by omega]
        exact h
      · simp only [if_neg h3, Nat.add_zero] at h ⊢
        exact h
    · refine Ev.step (fun k => by rw [temporef25_Parse.l1]) ?_
      simp only [if_neg (show ¬ (i : Int) < ((l.map cv).length : Int) by rw [List.length_map]; omega)]
      rw [List.drop_eq_nil_of_le (by omega), lead, Nat.add_zero] at h
      exact h

theorem res_num (s : ByteArray) (h : 1 ≤ resF s) : numF s = false := by
  unfold resF at h
  unfold numF
  rw [Lib.toList_data] at h
  by_cases c0 : s.data.toList = [42]
  · rw [if_pos c0] at h; omega
  · rw [if_neg c0] at h
    by_cases c1 : s.data.toList = [49, 45, 48]
    · rw [c1]; decide
    · rw [if_neg c1] at h
      by_cases c2 : s.data.toList = [48, 45, 49]
      · rw [c2]; decide
      · rw [if_neg c2] at h
        by_cases c3 : s.data.toList = [49, 47, 50, 45, 49, 47, 50]
        · rw [c3]; decide
        · rw [if_neg c3] at h; omega

theorem parse_ev (l : List S46) (hl : l.length ≤ 100000) (hs : ∀ t ∈ l, t.f1.size ≤ 9223372036854775807) : ∀ (F i : Nat) (ms : List ByteArray) (R : List ByteArray × Int × Int × Int), i ≤ l.length → ms.length ≤ 300 → parseN F l i ms = some R →
    Ev (fun k => temporef25_Parse.l0 k (l.map cv) (i : Int) ms 0) R := by
  intro F
  induction F with
  | zero => intro i ms R _ _ h; cases h
  | succ F ih =>
    intro i ms R hi0 hms h
    rw [parseN] at h
    by_cases hi : i < l.length
    · rw [dif_pos hi] at h
      refine Ev.step (fun k => by rw [temporef25_Parse.l0]) ?_
      simp only [if_pos (show (i : Int) < ((l.map cv).length : Int) by rw [List.length_map]; omega), if_pos (show (0 : Int) ≤ i by omega), rd_cv l i hi, step1 i (by omega)]
      have hsz : l[i].f1.size ≤ 9223372036854775807 := hs _ (List.getElem_mem hi)
      show Ev (fun k => (temporef25_result.f k l[i].f0 l[i].f1 l[i].f2).bind _) _
      refine Ev.bind (result_ev _ _ _) ?_
      by_cases k4 : l[i].f0 = 4
      · rw [if_neg (by omega), if_neg (by omega), if_pos k4] at h
        obtain rfl := Option.some.inj h
        have e : rs l[i].f0 l[i].f1 = 0 := by unfold rs; rw [if_pos k4]
        simp only [e, if_pos (show (0 : Int) ≥ 0 by decide)]
        have hr := result_ev l[i].f0 l[i].f1 l[i].f2
        rw [e] at hr
        exact Ev.bind hr (Ev.now _)
      · by_cases k2 : l[i].f0 = 2
        · rw [if_neg (by omega), if_neg (by omega), if_neg k4, if_pos k2] at h
          by_cases hr1 : 1 ≤ resF l[i].f1
          · rw [if_neg (by rw [res_num _ hr1]; decide), if_pos hr1] at h
            obtain rfl := Option.some.inj h
            have e : rs l[i].f0 l[i].f1 = resF l[i].f1 := by unfold rs; rw [if_neg k4, if_pos ⟨k2, hr1⟩]
            simp only [e, if_pos (show resF l[i].f1 ≥ 0 by omega)]
            have hr := result_ev l[i].f0 l[i].f1 l[i].f2
            rw [e] at hr
            exact Ev.bind hr (Ev.now _)
          · have e : rs l[i].f0 l[i].f1 = -1 := by unfold rs; rw [if_neg k4, if_neg (fun h => hr1 h.2)]
            simp only [e, if_neg (show ¬ (-1 : Int) ≥ 0 by decide)]
            show Ev (fun k => if l[i].f0 = 2 then (temporef25_number.f k l[i].f1).bind _ else _) _
            simp only [if_pos k2]
            refine Ev.bind (number_ev _ hsz) ?_
            refine Ev.step (fun k => by rw [temporef25_Parse.j2]) ?_
            cases hn : numF l[i].f1 with
            | true =>
              rw [if_pos hn] at h
              simp only [↓reduceIte, step1 i (show i < 9223372036854775000 by omega)]
              have hle := lead_le 3 (l.drop (i + 1))
              rw [List.length_drop] at hle
              exact dots_ev l hl ms R (l.length - (i + 1)) (i + 1) (by omega) (by omega) (ih _ ms R (by omega) hms h)
            | false =>
              rw [if_neg (by rw [hn]; decide), if_neg hr1] at h
              simp only [Bool.false_eq_true, ↓reduceIte]
              show Ev (fun k => if l[i].f0 = 2 then _ else _) _
              simp only [if_pos k2]
              by_cases h300 : ms.length = 300
              · rw [if_pos h300] at h
                obtain rfl := Option.some.inj h
                simp only [if_pos (show (ms.length : Int) = 300 by omega)]
                exact Ev.now _
              · rw [if_neg h300] at h
                simp only [if_neg (show ¬ (ms.length : Int) = 300 by omega), if_pos (show ms.length < 8796093022208 by omega), step1 i (show i < 9223372036854775000 by omega)]
                exact ih (i + 1) _ R (by omega) (by rw [List.length_append]; simp only [List.length_cons, List.length_nil]; omega) h
        · have e : rs l[i].f0 l[i].f1 = -1 := by unfold rs; rw [if_neg k4, if_neg (fun h => k2 h.1)]
          simp only [e, if_neg (show ¬ (-1 : Int) ≥ 0 by decide)]
          show Ev (fun k => if l[i].f0 = 2 then _ else temporef25_Parse.j2 k (l.map cv) (i : Int) false ms 0 l[i].f0 l[i].f1 l[i].f2) _
          simp only [if_neg k2]
          refine Ev.step (fun k => by rw [temporef25_Parse.j2]) ?_
          simp only [Bool.false_eq_true, ↓reduceIte, if_neg k2]
          by_cases kA : l[i].f0 = 10 ∨ l[i].f0 = 9 ∨ l[i].f0 = 11
          · rw [if_pos kA] at h
            have hnext := ih (i + 1) ms R (by omega) hms h
            have hj4 : Ev (fun k => temporef25_Parse.j4 k (l.map cv) (i : Int) true ms 0 l[i].f0 l[i].f1 l[i].f2) R := by
              refine Ev.step (fun k => by rw [temporef25_Parse.j4]) ?_
              simp only [↓reduceIte, step1 i (show i < 9223372036854775000 by omega)]
              exact hnext
            by_cases a10 : l[i].f0 = 10
            · simp only [if_pos a10]; exact hj4
            · by_cases a9 : l[i].f0 = 9
              · simp only [if_neg a10, if_pos a9]; exact hj4
              · have a11 : (l[i].f0 == 11) = true := beq_iff_eq.2 (by omega)
                simp only [if_neg a10, if_neg a9, a11]; exact hj4
          · rw [if_neg kA] at h
            have a11 : (l[i].f0 == 11) = false := beq_eq_false_iff_ne.2 (by omega)
            simp only [if_neg (show ¬ l[i].f0 = 10 by omega), if_neg (show ¬ l[i].f0 = 9 by omega), a11]
            refine Ev.step (fun k => by rw [temporef25_Parse.j4]) ?_
            simp only [Bool.false_eq_true, ↓reduceIte]
            by_cases k7 : l[i].f0 = 7
            · rw [if_pos k7] at h
              simp only [if_pos k7]
              have hv : Ev (fun k => temporef25_variation.f k (l.map cv) (i : Int)) (match varS (l.drop (i + 1)) 1 with | some m => ((i + 1 + m : Nat) : Int) | none => -1) :=
                Ev.step (fun k => by rw [temporef25_variation.f, step1 i (by omega)]) (var_ev l hl (l.length - (i + 1)) (i + 1) (by omega) (by omega))
              refine Ev.bind hv ?_
              cases hw : varS (l.drop (i + 1)) 1 with
              | none =>
                rw [hw] at h
                obtain rfl := Option.some.inj h
                simp only [if_pos (show (-1 : Int) < 0 by decide)]
                exact Ev.now _
              | some m =>
                rw [hw] at h
                have hm := varS_le _ _ _ hw
                rw [List.length_drop] at hm
                simp only [if_neg (show ¬ ((i + 1 + m : Nat) : Int) < 0 by omega)]
                exact ih (i + 1 + m) ms R (by omega) hms h
            · rw [if_neg k7, if_neg k4, if_neg k2] at h
              obtain rfl := Option.some.inj h
              simp only [if_neg k7]
              exact Ev.now _
    · rw [dif_neg hi] at h
      obtain rfl := Option.some.inj h
      refine Ev.step (fun k => by rw [temporef25_Parse.l0]) ?_
      simp only [if_neg (show ¬ (i : Int) < ((l.map cv).length : Int) by rw [List.length_map]; omega)]
      exact Ev.now _

/-- parseN answers where it has as many rounds as there are tokens. -/
theorem parseN_some (l : List S46) : ∀ (F i : Nat) (ms : List ByteArray), l.length + 1 - i ≤ F → i ≤ l.length → ∃ R, parseN F l i ms = some R := by
  intro F
  induction F with
  | zero => intro i ms h1 h2; omega
  | succ F ih =>
    intro i ms h1 h2
    rw [parseN]
    by_cases hi : i < l.length
    · rw [dif_pos hi]
      repeat' split
      all_goals first
        | exact ⟨_, rfl⟩
        | (refine ih _ _ (by omega) (by omega); done)
        | (rename_i hw; have hm := varS_le _ _ _ hw; rw [List.length_drop] at hm; exact ih _ _ (by omega) (by omega))
        | (have hle := lead_le 3 (l.drop (i + 1)); rw [List.length_drop] at hle; exact ih _ _ (by omega) (by omega))
    · rw [dif_neg hi]; exact ⟨_, rfl⟩
theorem parse_both (l : List S46) (hl : l.length ≤ 100000) (hs : ∀ t ∈ l, t.f1.size ≤ 9223372036854775807) (a : Int) : ∃ R, parseF l a = some R ∧ Ev (fun k => temporef25_Parse.f k (l.map cv) a) R := by
  unfold parseF
  by_cases ha : a < 0 ∨ (l.length : Int) < a
  · rw [if_pos ha]
    refine ⟨_, rfl, ?_⟩
    unfold temporef25_Parse.f
    have hj : Ev (fun k => temporef25_Parse.j0 k (l.map cv) a true) (([] : List ByteArray), (0 : Int), (0 : Int), (3 : Int)) := by
      refine Ev.step (fun k => by rw [temporef25_Parse.j0]) ?_
      simp only [↓reduceIte]
      exact Ev.now _
    by_cases h0 : a < 0
    · simp only [if_pos h0]; exact hj
    · simp only [if_neg h0, decide_eq_true (show a > ((l.map cv).length : Int) by rw [List.length_map]; omega)]; exact hj
  · rw [if_neg ha, if_pos ⟨by omega, List.all_eq_true.2 (fun t ht => decide_eq_true (hs t ht))⟩]
    obtain ⟨R, hR⟩ := parseN_some l (l.length + 1) a.toNat [] (by omega) (by omega)
    refine ⟨R, hR, ?_⟩
    unfold temporef25_Parse.f
    simp only [if_neg (show ¬ a < 0 by omega), decide_eq_false (show ¬ a > ((l.map cv).length : Int) by rw [List.length_map]; omega)]
    refine Ev.step (fun k => by rw [temporef25_Parse.j0]) ?_
    simp only [Bool.false_eq_true, ↓reduceIte]
    have h := parse_ev l hl hs _ _ _ _ (by omega) (by decide) hR
    rw [Int.toNat_of_nonneg (by omega)] at h
    exact h
end Go.Proofs.YtlpoglkddknedaaDoor.P

namespace Go.Proofs.YtlpoglkddknedaaDoor.P
open Go.RowKit Go.Proofs.YtlpoglkddknedaaDoor.T Go.Proofs.YtlpoglkddknedaaDoor.H Go.Proofs.YtlpoglkddknedaaDoorW.PrintWords Go.Proofs.YtlpoglkddknedaaDoorW.PrintLast
set_option linter.unusedVariables false
set_option linter.unusedSimpArgs false

theorem refs_ev (l : List S46) (hl : l.length ≤ 100000) : ∀ n i : Nat, l.length - i ≤ n → i ≤ l.length →
    Ev (fun k => tempolaw25_refs.l0 k ((l.take i).map cv) l (l.length : Int) (i : Int)) (l.map cv) := by
  intro n
  induction n with
  | zero =>
    intro i h1 h2
    refine Ev.step (fun k => by rw [tempolaw25_refs.l0]) ?_
    simp only [if_neg (show ¬ (i : Int) < (l.length : Int) by omega)]
    rw [List.take_of_length_le (by omega)]
    exact Ev.now _
  | succ n ih =>
    intro i h1 h2
    by_cases hi : i < l.length
    · refine Ev.step (fun k => by rw [tempolaw25_refs.l0]) ?_
      have h3 : rd_T46 l (i : Int) = l[i] := by unfold rd_T46; simp [hi]
      simp only [if_pos (show (i : Int) < (l.length : Int) by omega), if_pos (show (0 : Int) ≤ i by omega), if_pos (show ((l.take i).map cv).length < 4398046511104 by rw [List.length_map, List.length_take]; omega), h3, step1 i (show i < 9223372036854775000 by omega)]
      have e : (l.take i).map cv ++ [(⟨l[i].f0, l[i].f1, l[i].f2⟩ : S101)] = (l.take (i + 1)).map cv := by
        rw [List.take_succ_eq_append_getElem hi, List.map_append]; rfl
      rw [e]
      exact ih (i + 1) (by omega) (by omega)
    · refine Ev.step (fun k => by rw [tempolaw25_refs.l0]) ?_
      simp only [if_neg (show ¬ (i : Int) < (l.length : Int) by omega)]
      rw [List.take_of_length_le (by omega)]
      exact Ev.now _
theorem refs_all (l : List S46) (hl : l.length ≤ 100000) : Ev (fun k => tempolaw25_refs.f k l) (l.map cv) := refs_ev l hl l.length 0 (by omega) (by omega)

theorem lead_at (k : Int) (l : List S46) (i : Nat) (hi : i < l.length) : lead k (l.drop i) = if l[i].f0 = k then lead k (l.drop (i + 1)) + 1 else 0 := by
  rw [List.drop_eq_getElem_cons hi, lead]
theorem skip_ev' (l : List S46) (hl : l.length ≤ 100000) : ∀ n i : Nat, l.length - i ≤ n → i ≤ l.length → Ev (fun k => temporef25_skip.f k (l.map cv) (i : Int)) ((skp l i : Nat) : Int) := by
  intro n
  induction n with
  | zero =>
    intro i h1 h2
    have e : skp l i = i := by unfold skp; rw [List.drop_eq_nil_of_le (by omega), lead]; rfl
    rw [e]
    exact Ev.step (fun k => by rw [temporef25_skip.f, temporef25_skip.l0, if_neg (show ¬ (i : Int) < ((l.map cv).length : Int) by rw [List.length_map]; omega)]) (Ev.now _)
  | succ n ih =>
    intro i h1 h2
    by_cases hi : i < l.length
    · have hs := lead_at 10 l i hi
      have hr := rd_cv l i hi
      by_cases hk : l[i].f0 = 10
      · have e : skp l i = skp l (i + 1) := by unfold skp; rw [hs, if_pos hk]; omega
        rw [e]
        refine Ev.step (fun k => ?_) (ih (i + 1) (by omega) (by omega))
        show temporef25_skip.l0 (k + 1) (l.map cv) (i : Int) = temporef25_skip.l0 k (l.map cv) ((i + 1 : Nat) : Int)
        rw [temporef25_skip.l0, if_pos (show (i : Int) < ((l.map cv).length : Int) by rw [List.length_map]; omega), if_pos (show 0 ≤ (i : Int) by omega), hr, if_pos (show (cv l[i]).f0 = 10 from hk), step1 i (by omega)]
      · have e : skp l i = i := by unfold skp; rw [hs, if_neg hk]; rfl
        rw [e]
        refine Ev.step (fun k => ?_) (Ev.now _)
        show temporef25_skip.l0 (k + 1) (l.map cv) (i : Int) = _
        rw [temporef25_skip.l0, if_pos (show (i : Int) < ((l.map cv).length : Int) by rw [List.length_map]; omega), if_pos (show 0 ≤ (i : Int) by omega), hr, if_neg (show ¬ (cv l[i]).f0 = 10 from hk)]
    · have e : skp l i = i := by unfold skp; rw [List.drop_eq_nil_of_le (by omega), lead]; rfl
      rw [e]
      exact Ev.step (fun k => by rw [temporef25_skip.f, temporef25_skip.l0, if_neg (show ¬ (i : Int) < ((l.map cv).length : Int) by rw [List.length_map]; omega)]) (Ev.now _)

theorem kind_iff (l : List S46) (i : Nat) (k : Int) (hi : i < l.length) : kindAt l i k ↔ l[i].f0 = k := ⟨fun ⟨_, h⟩ => h, fun h => ⟨hi, h⟩⟩

/-- One part of a tag. -/
theorem part_no (l : List S46) (hl : l.length ≤ 100000) (out : List S56) (tx : List ByteArray) (c : Nat) (hc : c < 4) (i : Nat) (hk : ¬ kindAt l i (rd [5, 2, 1, 6] c)) :
    Ev (fun k => temporef25_Tags.l1 k (l.map cv) out (i : Int) [5, 2, 1, 6] tx (c : Int)) (([] : List S56), (0 : Int), (16 : Int)) := by
  refine Ev.step (fun k => by rw [temporef25_Tags.l1]) ?_
  simp only [if_pos (show (c : Int) < 4 by omega)]
  by_cases hi : i < l.length
  · rw [kind_iff l i _ hi] at hk
    simp only [if_neg (show ¬ (i : Int) ≥ ((l.map cv).length : Int) by rw [List.length_map]; omega), if_pos (show (0 : Int) ≤ i by omega), if_pos (show (i : Int) < ((l.map cv).length : Int) by rw [List.length_map]; omega), if_pos (show (0 : Int) ≤ c by omega), if_pos (show (c : Int) < (([5, 2, 1, 6] : List Int).length : Int) by simp only [List.length_cons, List.length_nil]; omega), rd_cv l i hi]
    show Ev (fun k => if l[i].f0 = rd [5, 2, 1, 6] (c : Int) then _ else _) _
    simp only [if_neg hk]
    exact Ev.now _
  · simp only [if_pos (show (i : Int) ≥ ((l.map cv).length : Int) by rw [List.length_map]; omega)]
    exact Ev.now _
theorem part_yes (l : List S46) (hl : l.length ≤ 100000) (out : List S56) (tx : List ByteArray) (htx : tx.length = 4) (c : Nat) (hc : c < 4) (i : Nat) (hk : kindAt l i (rd [5, 2, 1, 6] c)) (R : List S56 × Int × Int)
    (h : Ev (fun k => temporef25_Tags.l1 k (l.map cv) out ((skp l (i + 1) : Nat) : Int) [5, 2, 1, 6] (tx.set c (txt l i)) ((c + 1 : Nat) : Int)) R) :
    Ev (fun k => temporef25_Tags.l1 k (l.map cv) out (i : Int) [5, 2, 1, 6] tx (c : Int)) R := by
  obtain ⟨hi, hk⟩ := hk
  refine Ev.step (fun k => by rw [temporef25_Tags.l1]) ?_
  simp only [if_pos (show (c : Int) < 4 by omega), if_neg (show ¬ (i : Int) ≥ ((l.map cv).length : Int) by rw [List.length_map]; omega), if_pos (show (0 : Int) ≤ i by omega), if_pos (show (i : Int) < ((l.map cv).length : Int) by rw [List.length_map]; omega), if_pos (show (0 : Int) ≤ c by omega), if_pos (show (c : Int) < (([5, 2, 1, 6] : List Int).length : Int) by simp only [List.length_cons, List.length_nil]; omega), rd_cv l i hi]
  show Ev (fun k => if l[i].f0 = rd [5, 2, 1, 6] (c : Int) then _ else _) _
  have e : (cv l[i]).f1 = txt l i := by unfold txt rd_T46; simp [hi, cv]
  simp only [if_pos hk, if_pos (show (c : Int) < (tx.length : Int) by omega), step1 i (show i < 9223372036854775000 by omega), step1 c (show c < 9223372036854775000 by omega), Int.toNat_natCast, e]
  exact Ev.bind (skip_ev' l hl (l.length - (i + 1)) (i + 1) (by omega) (by omega)) h

theorem tags_ev (l : List S46) (hl : l.length ≤ 100000) : ∀ (F i : Nat) (out : List S56) (R : List S56 × Int × Int), i ≤ l.length → out.length ≤ 24 → tagsN F l i out = some R →
    Ev (fun k => temporef25_Tags.l0 k (l.map cv) out (i : Int)) R := by
  intro F
  induction F with
  | zero => intro i out R _ _ h; cases h
  | succ F ih =>
    intro i out R hi0 hout h
    rw [tagsN] at h
    have hj2 : Ev (fun k => temporef25_Tags.j2 k (l.map cv) out (i : Int) (decide (kindAt l i 5))) R := by
      refine Ev.step (fun k => by rw [temporef25_Tags.j2]) ?_
      by_cases k5 : kindAt l i 5
      · rw [if_pos k5] at h
        simp only [decide_eq_true k5, ↓reduceIte]
        have hi := k5.1
        by_cases h24 : out.length = 24
        · rw [if_pos h24] at h
          obtain rfl := Option.some.inj h
          simp only [if_pos (show (out.length : Int) = 24 by omega)]
          exact Ev.now _
        · rw [if_neg h24] at h
          simp only [if_neg (show ¬ (out.length : Int) = 24 by omega)]
          have hs1 := skp_le l (i + 1) (by omega)
          refine part_yes l hl out _ rfl 0 (by decide) i k5 R ?_
          by_cases k2 : kindAt l (skp l (i + 1)) 2
          · rw [if_pos k2] at h
            have hs2 := skp_le l (skp l (i + 1) + 1) (by have := k2.1; omega)
            refine part_yes l hl out _ rfl 1 (by decide) _ k2 R ?_
            by_cases k1 : kindAt l (skp l (skp l (i + 1) + 1)) 1
            · rw [if_pos k1] at h
              have hs3 := skp_le l (skp l (skp l (i + 1) + 1) + 1) (by have := k1.1; omega)
              refine part_yes l hl out _ rfl 2 (by decide) _ k1 R ?_
              by_cases k6 : kindAt l (skp l (skp l (skp l (i + 1) + 1) + 1)) 6
              · rw [if_pos k6] at h
                have hs4 := skp_le l (skp l (skp l (skp l (i + 1) + 1) + 1) + 1) (by have := k6.1; omega)
                refine part_yes l hl out _ rfl 3 (by decide) _ k6 R ?_
                refine Ev.step (fun k => by rw [temporef25_Tags.l1]) ?_
                simp only [if_neg (show ¬ ((3 + 1 : Nat) : Int) < 4 by omega), if_pos (show out.length < 4398046511104 by omega)]
                exact ih _ _ R (by omega) (by rw [List.length_append]; simp only [List.length_cons, List.length_nil]; omega) h
              · rw [if_neg k6] at h
                obtain rfl := Option.some.inj h
                exact part_no l hl out _ 3 (by decide) _ k6
            · rw [if_neg k1] at h
              obtain rfl := Option.some.inj h
              exact part_no l hl out _ 2 (by decide) _ k1
          · rw [if_neg k2] at h
            obtain rfl := Option.some.inj h
            exact part_no l hl out _ 1 (by decide) _ k2
      · rw [if_neg k5] at h
        obtain rfl := Option.some.inj h
        simp only [decide_eq_false k5, Bool.false_eq_true, ↓reduceIte]
        exact Ev.now _
    refine Ev.step (fun k => by rw [temporef25_Tags.l0]) ?_
    by_cases hi : i < l.length
    · have e : ((cv l[i]).f0 == 5) = decide (kindAt l i 5) := by
        have e1 : kindAt l i 5 = (l[i].f0 = 5) := propext (kind_iff l i 5 hi)
        by_cases hk : l[i].f0 = 5
        · rw [decide_eq_true (e1 ▸ hk)]; exact beq_iff_eq.2 hk
        · rw [decide_eq_false (e1 ▸ hk)]; exact beq_eq_false_iff_ne.2 hk
      simp only [if_pos (show (i : Int) < ((l.map cv).length : Int) by rw [List.length_map]; omega), if_pos (show (0 : Int) ≤ i by omega), rd_cv l i hi, e]
      exact hj2
    · simp only [if_neg (show ¬ (i : Int) < ((l.map cv).length : Int) by rw [List.length_map]; omega)]
      rw [decide_eq_false (fun h => hi h.1)] at hj2
      exact hj2
theorem tagsN_some (l : List S46) : ∀ (F i : Nat) (out : List S56), l.length + 1 - i ≤ F → i ≤ l.length → ∃ R, tagsN F l i out = some R := by
  intro F
  induction F with
  | zero => intro i out h1 h2; omega
  | succ F ih =>
    intro i out h1 h2
    rw [tagsN]
    by_cases k5 : kindAt l i 5
    · rw [if_pos k5]
      have h5 := k5.1
      have hs1 := skp_le l (i + 1) (by omega)
      by_cases h24 : out.length = 24
      · rw [if_pos h24]; exact ⟨_, rfl⟩
      · rw [if_neg h24]
        by_cases k2 : kindAt l (skp l (i + 1)) 2
        · rw [if_pos k2]
          have hs2 := skp_le l (skp l (i + 1) + 1) (by have := k2.1; omega)
          by_cases k1 : kindAt l (skp l (skp l (i + 1) + 1)) 1
          · rw [if_pos k1]
            have hs3 := skp_le l (skp l (skp l (i + 1) + 1) + 1) (by have := k1.1; omega)
            by_cases k6 : kindAt l (skp l (skp l (skp l (i + 1) + 1) + 1)) 6
            · rw [if_pos k6]
              have hs4 := skp_le l (skp l (skp l (skp l (i + 1) + 1) + 1) + 1) (by have := k6.1; omega)
              exact ih _ _ (by omega) (by omega)
            · rw [if_neg k6]; exact ⟨_, rfl⟩
          · rw [if_neg k1]; exact ⟨_, rfl⟩
        · rw [if_neg k2]; exact ⟨_, rfl⟩
    · rw [if_neg k5]; exact ⟨_, rfl⟩
theorem tags_both (l : List S46) (hl : l.length ≤ 100000) (a : Int) : ∃ R, tagsF l a = some R ∧ Ev (fun k => temporef25_Tags.f k (l.map cv) a) R := by
  unfold tagsF
  by_cases ha : a < 0 ∨ (l.length : Int) < a
  · rw [if_pos ha]
    refine ⟨_, rfl, ?_⟩
    unfold temporef25_Tags.f
    have hj : Ev (fun k => temporef25_Tags.j0 k (l.map cv) a true) (([] : List S56), (0 : Int), (3 : Int)) := by
      refine Ev.step (fun k => by rw [temporef25_Tags.j0]) ?_
      simp only [↓reduceIte]
      exact Ev.now _
    by_cases h0 : a < 0
    · simp only [if_pos h0]; exact hj
    · simp only [if_neg h0, decide_eq_true (show a > ((l.map cv).length : Int) by rw [List.length_map]; omega)]; exact hj
  · rw [if_neg ha, if_pos (by omega)]
    have hsk := skp_le l a.toNat (by omega)
    obtain ⟨R, hR⟩ := tagsN_some l (l.length + 1) (skp l a.toNat) [] (by omega) (by omega)
    refine ⟨R, hR, ?_⟩
    unfold temporef25_Tags.f
    simp only [if_neg (show ¬ a < 0 by omega), decide_eq_false (show ¬ a > ((l.map cv).length : Int) by rw [List.length_map]; omega)]
    refine Ev.step (fun k => by rw [temporef25_Tags.j0]) ?_
    simp only [Bool.false_eq_true, ↓reduceIte]
    have h1 := skip_ev' l hl (l.length - a.toNat) a.toNat (by omega) (by omega)
    rw [Int.toNat_of_nonneg (by omega)] at h1
    exact Ev.bind h1 (tags_ev l hl _ _ _ _ (by omega) (by decide) hR)

theorem eqS_ev (l : List ByteArray) (hl : l.length < 9223372036854775000) : ∀ (n j : Nat), l.length - j ≤ n → j ≤ l.length → Ev (fun k => slices_Equal_string_string.l0 k l l (l.length : Int) (j : Int)) true := by
  intro n
  induction n with
  | zero =>
    intro j hj hjl
    refine Ev.step (fun k => by rw [slices_Equal_string_string.l0]) ?_
    simp only [if_neg (show ¬ (j : Int) < (l.length : Int) by omega)]
    exact Ev.now _
  | succ n ih =>
    intro j hj hjl
    refine Ev.step (fun k => by rw [slices_Equal_string_string.l0]) ?_
    by_cases h : j < l.length
    · simp only [if_pos (show (j : Int) < (l.length : Int) by omega), if_pos (show (0 : Int) ≤ j by omega), step1 j (show j < 9223372036854775000 by omega), ↓reduceIte]
      exact ih (j + 1) (by omega) (by omega)
    · simp only [if_neg (show ¬ (j : Int) < (l.length : Int) by omega)]
      exact Ev.now _
theorem eqS_all (l : List ByteArray) (hl : l.length < 9223372036854775000) : Ev (fun k => slices_Equal_string_string.f k l l) true := by
  unfold slices_Equal_string_string.f
  simp only [↓reduceIte]
  exact eqS_ev l hl l.length 0 (by omega) (by omega)

theorem eqG_ev (l : List S56) (hl : l.length < 9223372036854775000) : ∀ (n j : Nat), l.length - j ≤ n → j ≤ l.length → Ev (fun k => api_Tag.l0 k l l (l.length : Int) (j : Int)) true := by
  intro n
  induction n with
  | zero =>
    intro j hj hjl
    refine Ev.step (fun k => by rw [api_Tag.l0]) ?_
    simp only [if_neg (show ¬ (j : Int) < (l.length : Int) by omega)]
    exact Ev.now _
  | succ n ih =>
    intro j hj hjl
    refine Ev.step (fun k => by rw [api_Tag.l0]) ?_
    by_cases h : j < l.length
    · simp only [if_pos (show (j : Int) < (l.length : Int) by omega), if_pos (show (0 : Int) ≤ j by omega), step1 j (show j < 9223372036854775000 by omega), beq_self_eq_true, Bool.not_true, Bool.or_self, Bool.false_eq_true, ↓reduceIte]
      exact ih (j + 1) (by omega) (by omega)
    · simp only [if_neg (show ¬ (j : Int) < (l.length : Int) by omega)]
      exact Ev.now _
theorem eqG_all (l : List S56) (hl : l.length < 9223372036854775000) : Ev (fun k => api_Tag.f k l l) true := by
  unfold api_Tag.f
  simp only [↓reduceIte]
  exact eqG_ev l hl l.length 0 (by omega) (by omega)

theorem eqT_ev (l : List S46) (hl : l.length < 9223372036854775000) : ∀ (n j : Nat), l.length - j ≤ n → j ≤ l.length → Ev (fun k => token_Token_22.l0 k l l (l.length : Int) (j : Int)) true := by
  intro n
  induction n with
  | zero =>
    intro j hj hjl
    refine Ev.step (fun k => by rw [token_Token_22.l0]) ?_
    simp only [if_neg (show ¬ (j : Int) < (l.length : Int) by omega)]
    exact Ev.now _
  | succ n ih =>
    intro j hj hjl
    refine Ev.step (fun k => by rw [token_Token_22.l0]) ?_
    by_cases h : j < l.length
    · simp only [if_pos (show (j : Int) < (l.length : Int) by omega), if_pos (show (0 : Int) ≤ j by omega), step1 j (show j < 9223372036854775000 by omega), beq_self_eq_true, Bool.not_true, Bool.or_self, Bool.false_eq_true, ↓reduceIte]
      exact ih (j + 1) (by omega) (by omega)
    · simp only [if_neg (show ¬ (j : Int) < (l.length : Int) by omega)]
      exact Ev.now _
theorem eqT_all (l : List S46) (hl : l.length < 9223372036854775000) : Ev (fun k => token_Token_22.f k l l) true := by
  unfold token_Token_22.f
  simp only [↓reduceIte]
  exact eqT_ev l hl l.length 0 (by omega) (by omega)

theorem parseN_len (l : List S46) : ∀ (F i : Nat) (ms : List ByteArray) (R : List ByteArray × Int × Int × Int), ms.length ≤ 300 → parseN F l i ms = some R → R.1.length ≤ 300 := by
  intro F
  induction F with
  | zero => intro i ms R _ h; cases h
  | succ F ih =>
    intro i ms R hms h
    rw [parseN] at h
    repeat' split at h
    all_goals first
      | (obtain rfl := Option.some.inj h; first | exact hms | exact Nat.zero_le _)
      | exact ih _ _ _ hms h
      | (refine ih _ _ _ ?_ h; rw [List.length_append]; simp only [List.length_cons, List.length_nil]; omega)
theorem tagsN_len (l : List S46) : ∀ (F i : Nat) (out : List S56) (R : List S56 × Int × Int), out.length ≤ 24 → tagsN F l i out = some R → R.1.length ≤ 24 := by
  intro F
  induction F with
  | zero => intro i out R _ h; cases h
  | succ F ih =>
    intro i out R hms h
    rw [tagsN] at h
    repeat' split at h
    all_goals first
      | (obtain rfl := Option.some.inj h; first | exact hms | exact Nat.zero_le _)
      | (refine ih _ _ _ ?_ h; rw [List.length_append]; simp only [List.length_cons, List.length_nil]; omega)
theorem parseF_len (l : List S46) (a : Int) (R) (h : parseF l a = some R) : R.1.length ≤ 300 := by
  unfold parseF at h
  repeat' split at h
  · obtain rfl := Option.some.inj h; exact Nat.zero_le _
  · exact parseN_len l _ _ _ R (Nat.zero_le _) h
  · cases h
theorem tagsF_len (l : List S46) (a : Int) (R) (h : tagsF l a = some R) : R.1.length ≤ 24 := by
  unfold tagsF at h
  repeat' split at h
  · obtain rfl := Option.some.inj h; exact Nat.zero_le _
  · exact tagsN_len l _ _ _ R (Nat.zero_le _) h
  · cases h

/-- The plain law of MovetextReads. -/
theorem MovetextReads (l : List S46) (a : Int) (hs : ∀ t ∈ l, t.f1.size ≤ 9223372036854775807) : ∃ k, tempolaw25_MovetextReads.f k l a = some true := by
  refine Ev.rounds ?_
  unfold tempolaw25_MovetextReads.f tempolaw25_works.f
  by_cases hbig : (l.length : Int) > 500
  · simp only [if_pos hbig, Option.bind_some]
    exact Ev.now _
  · simp only [if_neg hbig]
    have hl : l.length ≤ 100000 := by omega
    obtain ⟨R, hR, hE⟩ := parse_both l hl hs a
    obtain ⟨Q, hQ, hG⟩ := tags_both l hl a
    have e1 : token_Token_16.f l = some l := by unfold token_Token_16.f; rw [if_pos (by omega)]
    have e2 : movetext_Parse.f l a = some R := hR
    have e3 : movetext_Tags.f l a = some Q := hQ
    have n1 := parseF_len l a R hR
    have n2 := tagsF_len l a Q hQ
    rw [e1]
    simp only [Option.bind_some]
    rw [e2, e3]
    simp only [Option.bind_some]
    refine Ev.bind (refs_all l hl) (Ev.bind hE (Ev.bind (refs_all l hl) (Ev.bind hG (Ev.bind (eqS_all R.1 (by omega)) ?_))))
    simp only [↓reduceIte]
    refine Ev.bind (eqG_all Q.1 (by omega)) ?_
    simp only [↓reduceIte]
    refine Ev.bind (eqT_all l (by omega)) ?_
    simp only [↓reduceIte]
    exact Ev.now _
end Go.Proofs.YtlpoglkddknedaaDoor.P

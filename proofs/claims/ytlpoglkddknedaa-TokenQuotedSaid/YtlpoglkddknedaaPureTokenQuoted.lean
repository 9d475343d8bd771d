/- The plain law of TokenQuoted: a quoted form is one token, and is read back. Conditions: those of the statement. -/
import Derived.Test.YtlpoglkddknedaaTx21
import Derived.Test.YtlpoglkddknedaaPe
import Derived.Lib.LazyBuf
namespace Go.Proofs.Ytlpoglkddknedaa.P
open Go.RowKit Go.Proofs.Ytlpoglkddknedaa.T Go.Proofs.Ytlpoglkddknedaa.H Go.Proofs.YtlpoglkddknedaaW.PrintWords Go.Proofs.YtlpoglkddknedaaW.PrintLast
set_option linter.unusedVariables false
set_option linter.unusedSimpArgs false

/-- A quoted form is read back. -/
theorem textL_quote : ∀ (l : List UInt8) (i : Nat) (acc : List UInt8), l.all prnt = true → textL (quoteL l ++ [34]) i acc = if 255 < acc.length + l.length then (⟨#[]⟩, 0) else (⟨(acc ++ l).toArray⟩, (i : Int) + (quoteL l).length + 2) := by
  intro l
  induction l with
  | nil =>
    intro i acc _
    rw [show (quoteL [] ++ [34] : List UInt8) = [34] from rfl, textL_cons, if_neg (by decide), if_pos (by decide), List.append_nil, List.length_nil, Nat.add_zero]
    rw [show ((quoteL []).length : Int) = 0 from rfl, Int.add_zero]
  | cons c r ih =>
    intro i acc h
    rw [List.all_cons, Bool.and_eq_true] at h
    obtain ⟨hc, hr⟩ := h
    have hc' : 32 ≤ c.toNat ∧ c.toNat ≤ 126 := of_decide_eq_true hc
    have e : quoteL (c :: r) = (if c.toNat = 34 ∨ c.toNat = 92 then [92, c] else [c]) ++ quoteL r := rfl
    have hacc : acc ++ [c] ++ r = acc ++ c :: r := by simp
    by_cases hq : c.toNat = 34 ∨ c.toNat = 92
    · rw [e, if_pos hq, show ([92, c] ++ quoteL r ++ [34] : List UInt8) = 92 :: c :: (quoteL r ++ [34]) from rfl, textL_cons, if_neg (by decide), if_neg (by decide), if_pos (by decide)]
      dsimp only
      rw [if_pos (by omega), ih (i + 2) (acc ++ [c]) hr, hacc]
      simp only [List.length_append, List.length_cons, List.length_nil]
      by_cases h255 : 255 < acc.length + (r.length + 1)
      · rw [if_pos (by omega), if_pos h255]
      · rw [if_neg (by omega), if_neg h255]
        congr 1
        omega
    · rw [e, if_neg hq, show ([c] ++ quoteL r ++ [34] : List UInt8) = c :: (quoteL r ++ [34]) from rfl, textL_cons, if_neg (by omega), if_neg (by omega), if_neg (by omega), ih (i + 1) (acc ++ [c]) hr, hacc]
      simp only [List.length_append, List.length_cons, List.length_nil]
      by_cases h255 : 255 < acc.length + (r.length + 1)
      · rw [if_pos (by omega), if_pos h255]
      · rw [if_neg (by omega), if_neg h255]
        congr 1
        omega

theorem scan_end (s : ByteArray) (hs : s.size ≤ 1099511627776) (k : Nat) : scanN (k + 1) s (s.size : Int) = some ([], -1) := by
  rw [scanN, Int.toNat_natCast, show (⟨#[32, 9, 13, 10]⟩ : ByteArray) = WS from rfl, run_eq _ WS (by rw [ByteArray.size_extract]; omega) (by decide) ascii_WS, ext_all, show (D s).drop s.size = [] from drop_end s _ (Nat.le_refl _), Option.bind_some, spnL_nil, if_pos (by omega), if_pos (by omega)]
/-- A string that is one token, or none, from its begin on. -/
theorem scan_one (s : ByteArray) (hs : s.size ≤ 1099511627776) (c : UInt8) (q : List UInt8) (hd : D s = c :: q) (hw : inS WS c = false) (h37 : c.toNat ≠ 37) :
    ((tokS c q).2.2 = (s.size : Int) → scanF s = some ([⟨(tokS c q).1, (tokS c q).2.1, 0⟩], 0, 0)) ∧ ((tokS c q).2.2 = 0 → scanF s = some ([], 0, 8)) := by
  have hl : s.size = q.length + 1 := by rw [← D_len, hd, List.length_cons]
  have h0 : 0 < s.size := by omega
  have hc : s[0] = c := by
    have h := D_cons s h0
    rw [hd] at h
    exact (List.cons.inj h).1.symm
  have hq : (D s).drop 1 = q := by rw [hd]; rfl
  have hx : s.extract ((0 : Nat) : Int).toNat s.size = s := D_inj (by rw [show ((0 : Nat) : Int).toNat = 0 from rfl, ext_all, List.drop_zero])
  have hrun : token_run.f (s.extract ((0 : Nat) : Int).toNat s.size) (⟨#[32, 9, 13, 10]⟩ : ByteArray) = some ((0 : Nat) : Int) := by
    rw [hx, show (⟨#[32, 9, 13, 10]⟩ : ByteArray) = WS from rfl, run_eq _ WS (by omega) (by decide) ascii_WS, hd, spnL_cons, if_neg (by rw [hw]; decide)]
  have hone := one_eq s h0 (by omega)
  rw [hc, hq] at hone
  have hstep : scanN (s.size + 2) s ((0 : Nat) : Int) = (if 0 < (tokS c q).2.2 then (if ((0 : Nat) : Int) + (tokS c q).2.2 ≤ s.size then (scanN (s.size + 1) s (((0 : Nat) : Int) + (tokS c q).2.2)).map fun x => (⟨(tokS c q).1, (tokS c q).2.1, ((0 : Nat) : Int)⟩ :: x.1, x.2) else none) else some ([], ((0 : Nat) : Int))) := by
    rw [scanN, hrun, Option.bind_some, show (((0 : Nat) : Int) + ((0 : Nat) : Int)) = ((0 : Nat) : Int) from rfl, if_pos ⟨by omega, by omega⟩, if_neg (by omega), bt_nat s 0 h0, if_neg (by rw [hc]; omega), hx, hone, Option.bind_some]
  constructor
  · intro h
    rw [if_pos (by omega), if_pos (by omega), h, show ((0 : Nat) : Int) + (s.size : Int) = (s.size : Int) by omega, scan_end s hs, Option.map_some] at hstep
    unfold scanF
    rw [if_pos (by omega), show (0 : Int) = ((0 : Nat) : Int) from rfl, hstep, Option.bind_some, if_pos (by simp)]
    exact if_neg (show ¬ ((0 : Int) ≤ -1) by decide)
  · intro h
    rw [if_neg (by omega)] at hstep
    unfold scanF
    rw [if_pos (by omega), show (0 : Int) = ((0 : Nat) : Int) from rfl, hstep, Option.bind_some, if_pos (by simp), if_pos (by decide)]

theorem letter_prnt (c : Int) : prnt (letterOf printableS c) = true := by
  have hk : ∀ n : Fin 95, prnt ((D printableS).getD n.val 0) = true := by decide +kernel
  have hsz : printableS.size = 95 := by decide
  unfold letterOf
  rw [hsz]
  exact hk ⟨c.toNat % 95, Nat.mod_lt _ (by decide)⟩
end Go.Proofs.Ytlpoglkddknedaa.P

namespace Go.Proofs.Ytlpoglkddknedaa.Pure
open Go.RowKit Go.Proofs.Ytlpoglkddknedaa.T Go.Proofs.Ytlpoglkddknedaa.H Go.Proofs.Ytlpoglkddknedaa.P Go.Proofs.YtlpoglkddknedaaW.PrintWords Go.Proofs.YtlpoglkddknedaaW.PrintLast
set_option linter.unusedVariables false
set_option linter.unusedSimpArgs false

theorem u8_wf {x : Int} (h : (Lit.int .u8 x).wf = true) : 0 ≤ x ∧ x ≤ 255 := by
  simp only [Lit.wf, IntKind.min, IntKind.max, IntKind.signed, IntKind.bits, Bool.and_eq_true, decide_eq_true_eq] at h
  simp at h
  omega
theorem quoted_str (t : ByteArray) (h : (D t).all prnt = true) (h255 : t.size ≤ 255) :
    quoteF t = (⟨(34 :: quoteL (D t) ++ [34]).toArray⟩, 0) ∧ scanF ⟨(34 :: quoteL (D t) ++ [34]).toArray⟩ = some ([⟨1, t, 0⟩], 0, 0) := by
  constructor
  · unfold quoteF
    rw [if_pos h, if_neg (by omega)]
  · have hl := quoteL_le (D t)
    rw [D_len] at hl
    have hsz : (⟨(34 :: quoteL (D t) ++ [34]).toArray⟩ : ByteArray).size = (quoteL (D t)).length + 2 := by simp [ByteArray.size]
    have hT : tokS 34 (quoteL (D t) ++ [34]) = (1, t, ((quoteL (D t)).length : Int) + 2) := by
      unfold tokS
      rw [if_neg (by decide), if_neg (by decide), if_neg (by decide), if_pos (by decide), textL_quote (D t) 0 [] h, if_neg (by rw [D_len]; simp; omega), List.nil_append, mk_D]
      congr 2
      omega
    have h1 := (scan_one ⟨(34 :: quoteL (D t) ++ [34]).toArray⟩ (by rw [hsz]; omega) 34 (quoteL (D t) ++ [34]) (by rw [D_mk]; rfl) (by decide) (by decide)).1 (by rw [hT, hsz]; rfl)
    rw [hT] at h1
    exact h1
theorem quoted_not (c : UInt8) (h : prnt c = false) : scanF ⟨#[34, c, 34]⟩ = some ([], 0, 8) := by
  have hc : c.toNat < 32 ∨ 126 < c.toNat := by unfold prnt at h; have := of_decide_eq_false h; omega
  refine (scan_one ⟨#[34, c, 34]⟩ (by show 3 ≤ _; decide) 34 [c, 34] rfl (by decide) (by decide)).2 ?_
  unfold tokS
  rw [if_neg (by decide), if_neg (by decide), if_neg (by decide), if_pos (by decide), textL_cons, if_pos hc]

theorem TokenQuoted : tempolaw23_TokenQuoted.Pure := by
  intro l0 a1 a2 _ hl0 hw0 hw1 hw2
  obtain ⟨h10, h11⟩ := u8_wf hw1
  obtain ⟨h20, h21⟩ := u8_wf hw2
  have hall : (l0.all fun c => decide (0 ≤ c ∧ c ≤ 255)) = true := by
    rw [List.all_eq_true]
    intro x hx
    exact decide_eq_true (u8_wf (hw0 x hx))
  refine Ev.rounds ?_
  unfold tempolaw23_TokenQuoted.f tempolaw23_printable.f
  have hP : printableS.size = 95 := by decide
  obtain ⟨t, ht⟩ : ∃ t : ByteArray, (⟨(lettersL printableS (l0.take 400)).toArray⟩ : ByteArray) = t := ⟨_, rfl⟩
  have hL : tempolaw23_letters.f l0 printableS 400 = some t := by
    show lettersF l0 printableS 400 = _
    unfold lettersF
    rw [if_pos ⟨by decide, by decide, by omega, by omega, by omega, hall⟩]
    exact congrArg some ht
  have hD : D t = lettersL printableS (l0.take 400) := by rw [← ht, D_mk]
  have hpr : (D t).all prnt = true := by
    rw [hD, List.all_eq_true]
    intro x hx
    unfold lettersL at hx
    obtain ⟨y, _, rfl⟩ := List.mem_map.1 hx
    exact letter_prnt y
  have hsz : t.size ≤ 400 := by
    rw [← D_len, hD]
    unfold lettersL
    rw [List.length_map, List.length_take]
    omega
  simp only [Option.bind_some, hL]
  have hQ : ∀ s : ByteArray, s.size ≤ 1000 → token_Quote.f s = some (quoteF s) := fun s h => by unfold token_Quote.f; rw [if_pos (by omega)]
  rw [hQ t (by omega)]
  simp only [Option.bind_some]
  by_cases h255 : t.size ≤ 255
  · obtain ⟨hq1, hq2⟩ := quoted_str t hpr h255
    have hsc : token_Scan.f ⟨((34 : UInt8) :: quoteL (D t) ++ [34]).toArray⟩ = some (([⟨1, t, 0⟩] : List S40), (0 : Int), (0 : Int)) := hq2
    rw [hq1]
    have hrd : rd_T40 [⟨1, t, 0⟩] 0 = ⟨1, t, 0⟩ := rfl
    have hcond : (!((⟨1, t, 0⟩ : S40).f0 == 1) || (!((⟨1, t, 0⟩ : S40).f1.toList == t.toList) || !((⟨1, t, 0⟩ : S40).f2 == 0))) = false := by simp
    simp only [if_neg (show ¬ (t.size : Int) > 255 by omega), Option.bind_some, ↓reduceIte, List.length_cons, List.length_nil, show (((0 + 1 : Nat) : Int) = 1) from rfl, show ((0 : Int) < 1) from by decide, hrd, hcond, hsc]
    refine Ev.step (fun k => by rw [tempolaw23_TokenQuoted.j0]) ?_
    have hw1 : wrap64 ((t.size : Int) + 1) = ((t.size + 1 : Nat) : Int) := step1 _ (by omega)
    have hw2 : wrap64 a2 = a2 := wrap_id h20 (by omega)
    obtain ⟨k, hk⟩ : ∃ k : Nat, a2.toNat % (t.size + 1) = k := ⟨_, rfl⟩
    have hkt : Int.tmod a2 ((t.size + 1 : Nat) : Int) = (k : Int) := by
      obtain ⟨m, rfl⟩ := Int.eq_ofNat_of_zero_le h20
      rw [← hk, Int.tmod_eq_emod_of_nonneg (by omega)]
      rfl
    have hkl : k < t.size + 1 := by rw [← hk]; exact Nat.mod_lt _ (by omega)
    rw [hw1, hw2, hkt]
    simp only [Bool.false_eq_true, ↓reduceIte, if_neg (show ¬ ((t.size + 1 : Nat) : Int) = 0 by omega)]
    obtain ⟨c, hc⟩ : ∃ c : UInt8, a1 = (c.toNat : Int) := ⟨UInt8.ofNat a1.toNat, by simp; omega⟩
    have key : Ev (fun n => tempolaw23_TokenQuoted.j1 n a1 t (k : Int) (prnt c)) true := by
      refine Ev.step (fun n => by rw [tempolaw23_TokenQuoted.j1]) ?_
      unfold tempolaw23_works.f
      simp only [Option.bind_some]
      cases hp : prnt c with
      | true =>
        simp only [↓reduceIte]
        exact Ev.now _
      | false =>
        have hs : strOfNums [a1] = ⟨#[c]⟩ := by
          have := Go.Lib.Lz.strOfNums_map [c]
          rw [hc]
          exact this
        have e1 : (t.extract 0 (k : Int).toNat).size = k := by rw [Int.toNat_natCast, ByteArray.size_extract]; omega
        have e2 : (t.extract (k : Int).toNat t.size).size = t.size - k := by rw [Int.toNat_natCast, ByteArray.size_extract]; omega
        have e3 : (⟨#[c]⟩ : ByteArray).size = 1 := rfl
        have e4 : (⟨#[34]⟩ : ByteArray).size = 1 := rfl
        have hnp : quoteF (t.extract 0 (k : Int).toNat ++ ⟨#[c]⟩ ++ t.extract (k : Int).toNat t.size) = (⟨#[]⟩, 8) := by
          unfold quoteF
          rw [if_neg]
          intro h
          rw [List.all_eq_true] at h
          have h2 := h c (by
            show c ∈ D _
            rw [D_app, D_app]
            simp [D])
          rw [hp] at h2
          exact absurd h2 (by decide)
        have hsc : token_Scan.f ((⟨#[34]⟩ : ByteArray) ++ ⟨#[c]⟩ ++ ⟨#[34]⟩) = some ([], 0, 8) := by
          rw [show ((⟨#[34]⟩ : ByteArray) ++ ⟨#[c]⟩ ++ ⟨#[34]⟩) = ⟨#[34, c, 34]⟩ from D_inj (by rw [D_app, D_app]; rfl)]
          exact quoted_not c hp
        simp only [Bool.false_eq_true, ↓reduceIte, hs, ByteArray.size_append, e1, e2, e3, e4, if_pos (show (0 : Int) ≤ k by omega), if_pos (show (k : Int) ≤ (t.size : Int) by omega), if_pos (show k + 1 ≤ 9223372036854775807 by omega), if_pos (show k + 1 + (t.size - k) ≤ 9223372036854775807 by omega), hsc, Option.bind_some]
        rw [hQ _ (by rw [ByteArray.size_append, ByteArray.size_append, e1, e2, e3]; omega), hnp]
        have hem : (⟨#[]⟩ : ByteArray).toList = [] := by rw [toList_D]
        simp only [Option.bind_some, hem, ↓reduceIte, if_pos (show 1 + 1 ≤ 9223372036854775807 by decide), if_pos (show 1 + 1 + 1 ≤ 9223372036854775807 by decide)]
        exact Ev.now _
    by_cases h32 : a1 ≥ 32
    · simp only [if_pos h32]
      rw [show decide (a1 < 127) = prnt c by unfold prnt; rw [decide_eq_decide]; omega]
      exact key
    · simp only [if_neg h32]
      rw [show false = prnt c by unfold prnt; symm; exact decide_eq_false (by omega)]
      exact key
  · have hq : quoteF t = (⟨#[]⟩, 9) := by unfold quoteF; rw [if_pos hpr, if_pos (by omega)]
    rw [hq]
    unfold tempolaw23_works.f
    have hem : (⟨#[]⟩ : ByteArray).toList = [] := by rw [toList_D]
    simp only [if_pos (show (t.size : Int) > 255 by omega), Option.bind_some, hem, ↓reduceIte]
    exact Ev.now _
end Go.Proofs.Ytlpoglkddknedaa.Pure

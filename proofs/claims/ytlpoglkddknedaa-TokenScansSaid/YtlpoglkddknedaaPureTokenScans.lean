/- The plain law of TokenScans: scanN's tokens are the answer's own. Conditions: those of the statement. -/
import Derived.Test.YtlpoglkddknedaaTx18
import Derived.Test.YtlpoglkddknedaaPe
namespace Go.Proofs.Ytlpoglkddknedaa.Pure
open Go.RowKit Go.Proofs.Ytlpoglkddknedaa.T Go.Proofs.Ytlpoglkddknedaa.H Go.Proofs.Ytlpoglkddknedaa.P Go.Proofs.YtlpoglkddknedaaW.PrintWords Go.Proofs.YtlpoglkddknedaaW.PrintLast
set_option linter.unusedVariables false
set_option linter.unusedSimpArgs false

theorem same_loop (l : List S40) (hl : l.length < 9223372036854775000) : ∀ (n j : Nat), l.length - j ≤ n → j ≤ l.length → Ev (fun k => tempolaw23_same.l0 k l (l.map cv) (l.length : Int) (j : Int)) true := by
  intro n
  induction n with
  | zero =>
    intro j hj hjl
    refine Ev.step (fun k => by rw [tempolaw23_same.l0]) ?_
    simp only [if_neg (show ¬ (j : Int) < (l.length : Int) by omega)]
    exact Ev.now _
  | succ n ih =>
    intro j hj hjl
    refine Ev.step (fun k => by rw [tempolaw23_same.l0]) ?_
    by_cases h : j < l.length
    · have h1 : rd_T40 l (j : Int) = l[j] := by unfold rd_T40; simp [h]
      have h2 : rd_T52 (l.map cv) (j : Int) = cv l[j] := by unfold rd_T52; simp [h]
      simp only [if_pos (show (j : Int) < (l.length : Int) by omega), if_pos (show (0 : Int) ≤ j by omega), if_pos (show (j : Int) < ((l.map cv).length : Int) by rw [List.length_map]; omega), h1, h2, step1 j (show j < 9223372036854775000 by omega)]
      have h3 : (!(l[j].f0 == (cv l[j]).f0) || (!(l[j].f1.toList == (cv l[j]).f1.toList) || !(l[j].f2 == (cv l[j]).f2))) = false := by simp [cv]
      simp only [h3, Bool.false_eq_true, ↓reduceIte]
      exact ih (j + 1) (by omega) (by omega)
    · simp only [if_neg (show ¬ (j : Int) < (l.length : Int) by omega)]
      exact Ev.now _
theorem same_ev (l : List S40) (hl : l.length < 9223372036854775000) : Ev (fun k => tempolaw23_same.f k l (l.map cv)) true := by
  unfold tempolaw23_same.f
  simp only [List.length_map, ↓reduceIte]
  exact same_loop l hl l.length 0 (by omega) (by omega)

theorem TokenScans : tempolaw23_TokenScans.Pure := by
  intro a0 _
  refine Ev.rounds ?_
  unfold tempolaw23_TokenScans.f tempolaw23_works.f
  by_cases hbig : (a0.size : Int) > 2000
  · simp only [if_pos hbig, Option.bind_some]
    exact Ev.now _
  · simp only [if_neg hbig]
    obtain ⟨toks, R, e1, e2, e3, e4⟩ := scan_both a0 (by omega) (a0.size + 1) 0 (by omega) (by omega)
    rw [show ((0 : Nat) : Int) = 0 from rfl] at e1
    have h4 := e4 [] (by simp only [List.length_nil]; omega)
    rw [List.nil_append, show ((0 : Nat) : Int) = 0 from rfl] at h4
    have hsm : toks.length ≤ 2000 := by omega
    have hF : token_Scan.f a0 = (if 0 ≤ R then some ([], R, 8) else some (toks, 0, 0)) := by
      show scanF a0 = _
      unfold scanF
      rw [if_pos (by omega), e1, Option.bind_some, if_pos (show toks.length * 32 ≤ 140737488355328 by omega)]
    have hY : tempolaw23_yielded.f a0 = some toks := by
      show yieldF a0 = _
      unfold yieldF
      rw [if_pos (by omega), e1, Option.bind_some, if_pos (show toks.length ≤ a0.size ∧ (toks.length + 1) * 32 ≤ 140737488355328 from ⟨by omega, by omega⟩)]
    have hA : Ev (fun k => temporef23_All.f k a0) (toks.map cv) := by
      unfold temporef23_All.f temporef23_tokens.f
      exact Ev.bind h4 (Ev.now _)
    have hS : Ev (fun k => temporef23_Scan.f k a0) (if 0 ≤ R then ([], R, 8) else (toks.map cv, 0, 0)) := by
      unfold temporef23_Scan.f temporef23_tokens.f
      refine Ev.bind h4 ?_
      by_cases hR : 0 ≤ R
      · simp only [if_pos (show R ≥ 0 from hR), if_pos hR]
        exact Ev.now _
      · simp only [if_neg (show ¬ R ≥ 0 from hR), if_neg hR]
        exact Ev.now _
    rw [hF, hY]
    simp only [Option.bind_some]
    have hfin : Ev (fun k => (temporef23_All.f k a0).bind fun t173 => (tempolaw23_same.f k toks t173).bind fun t176 => if t176 = true then (some true : Option Bool) else some false) true := by
      refine Ev.bind hA (Ev.bind (same_ev toks (by omega)) ?_)
      simp only [↓reduceIte]
      exact Ev.now _
    by_cases hR : 0 ≤ R
    · simp only [if_pos hR, Option.bind_some] at hS ⊢
      refine Ev.bind hS ?_
      refine Ev.bind (same_ev [] (by decide)) ?_
      simp only [↓reduceIte]
      exact hfin
    · simp only [if_neg hR, Option.bind_some] at hS ⊢
      refine Ev.bind hS ?_
      refine Ev.bind (same_ev toks (by omega)) ?_
      simp only [↓reduceIte]
      exact hfin
end Go.Proofs.Ytlpoglkddknedaa.Pure

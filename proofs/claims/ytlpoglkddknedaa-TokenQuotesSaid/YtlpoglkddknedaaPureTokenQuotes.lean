/- The plain law of TokenQuotes: quoted forms and symbols are the answer's own. Conditions: those of the statement. -/
import Derived.Test.YtlpoglkddknedaaPe
namespace Go.Proofs.Ytlpoglkddknedaa.Pure
open Go.RowKit Go.Proofs.Ytlpoglkddknedaa.T Go.Proofs.Ytlpoglkddknedaa.H Go.Proofs.Ytlpoglkddknedaa.P Go.Proofs.YtlpoglkddknedaaW.PrintWords Go.Proofs.YtlpoglkddknedaaW.PrintLast
set_option linter.unusedVariables false
set_option linter.unusedSimpArgs false

theorem TokenQuotes : tempolaw23_TokenQuotes.Pure := by
  intro a0 _
  refine Ev.rounds ?_
  unfold tempolaw23_TokenQuotes.f tempolaw23_works.f
  by_cases hbig : (a0.size : Int) > 2000
  · simp only [if_pos hbig, Option.bind_some]
    exact Ev.now _
  · simp only [if_neg hbig]
    obtain ⟨b, hb1, hb2⟩ := is_ev a0 (by omega)
    have hq : token_Quote.f a0 = some (quoteF a0) := by unfold token_Quote.f; rw [if_pos (by omega)]
    rw [hq, hb1]
    simp only [Option.bind_some]
    refine Ev.bind (quote_ev a0 (by omega)) ?_
    simp only [↓reduceIte]
    refine Ev.bind hb2 ?_
    simp only [beq_self_eq_true, ↓reduceIte]
    exact Ev.now _
end Go.Proofs.Ytlpoglkddknedaa.Pure

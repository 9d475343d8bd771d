/- TokenBack walked: it answers true where the text is scanned as its tokens. -/
import Derived.Test.YtlpoglkddknedaaGreatDoorTz
import Derived.Test.YtlpoglkddknedaaGreatDoorTx9
import Derived.Test.YtlpoglkddknedaaGreatDoorTx11
import Derived.Test.YtlpoglkddknedaaGreatDoorHw
import Derived.IntWalk
namespace Go.Proofs.YtlpoglkddknedaaGreatDoor.R
open Go.RowKit Go.Lib Go.Proofs.YtlpoglkddknedaaGreatDoor.T Go.Proofs.YtlpoglkddknedaaGreatDoor.H Go.Proofs.YtlpoglkddknedaaGreatDoorW.PrintWords Go.Proofs.YtlpoglkddknedaaGreatDoorW.PrintLast
set_option linter.unusedVariables false
set_option linter.unusedSimpArgs false
theorem eqK (l : List S31) (hl : l.length ≤ 1000000) : ∀ (n j : Nat), l.length - j ≤ n → j ≤ l.length → token_Token.l0 (n + 1) l l (l.length : Int) (j : Int) = some true := by
  intro n
  induction n with
  | zero =>
    intro j hj hjl
    rw [token_Token.l0, if_neg (show ¬ (j : Int) < (l.length : Int) by omega)]
  | succ n ih =>
    intro j hj hjl
    rw [token_Token.l0]
    by_cases h : j < l.length
    · have hs : wrap64 ((j : Int) + 1) = ((j + 1 : Nat) : Int) := by rw [IntWalk.wrap64_in _ (by omega)]; rfl
      simp only [if_pos (show (j : Int) < (l.length : Int) by omega), if_pos (show (0 : Int) ≤ j by omega), hs, beq_self_eq_true, Bool.not_true, Bool.or_self, Bool.false_eq_true, ↓reduceIte]
      exact ih (j + 1) (by omega) (by omega)
    · rw [if_neg (show ¬ (j : Int) < (l.length : Int) by omega)]
theorem eqK_call (l : List S31) (n : Nat) (hn : l.length = n) (hl : n ≤ 1000000) (w : World) (A0 A1 : Option Addr) (c0 c1 : Nat) (h0 : Kd.C k31 w A0 n l) (hc0 : n ≤ c0) (h1 : Kd.C k31 w A1 n l) (hc1 : n ≤ c1) :
    Calls Tryz.prog 8 #[.slice A0 n c0, .slice A1 n c1] w fun e w' => e = .returned (.bool true) ∧ Below w.heap.size w w' := by
  subst hn
  refine (token_Token.calls (l.length + 1) A0 c0 l A1 c1 l true w h0 hc0 h1 hc1 ?_).mono ?_
  · unfold token_Token.f
    rw [if_pos rfl]
    exact eqK l hl l.length 0 (by omega) (by omega)
  · rintro e w' ⟨rfl, nd, rfl⟩
    exact ⟨rfl, bdrew (Below.refl _ _) nd⟩
set_option maxRecDepth 100000 in
set_option maxHeartbeats 4000000 in
theorem back_call (W : World) (A : Option Addr) (c : Nat) (P : List Pc) (hP : PiecesAt W A P) (hc : P.length ≤ c) (hok : ∀ p ∈ P, p.ok) (hsz : ∀ p ∈ P, (pSrc p).size + (pGap p).size ≤ 5000) (hts : ∀ p ∈ P, ∀ o r, (comText p.B o r).size ≤ 1000) (mm : Int) (hmm : W.cell? ⟨0, 0, none⟩ = some (.int .i64 mm))
    (hsc : scanF ⟨(textS (P.take 20)).1.toArray⟩ = some ((textS (P.take 20)).2, 0, 0)) (hyl : yieldF ⟨(textS (P.take 20)).1.toArray⟩ = some (textS (P.take 20)).2) :
    Calls Tryz.prog 3 #[.slice A P.length c] W fun e w' => e = .returned (.bool true) ∧ Below W.heap.size W w' := by
  have htl : (textS (P.take 20)).2.length ≤ 20 := by rw [textS_toks, List.length_take]; omega
  obtain ⟨s, hs⟩ : ∃ s, (⟨(textS (P.take 20)).1.toArray⟩ : ByteArray) = s := ⟨_, rfl⟩
  obtain ⟨tk, htk⟩ : ∃ tk, (textS (P.take 20)).2 = tk := ⟨_, rfl⟩
  obtain ⟨nt, hnt⟩ : ∃ nt, tk.length = nt := ⟨_, rfl⟩
  obtain ⟨m, hm⟩ : ∃ m, P.length = m := ⟨_, rfl⟩
  have HTX := Aside0.mk (show Calls Tryz.prog 6 #[.slice A m c] W fun e w' => ∃ A1 c1, e = .returned (.tuple #[.string s, .slice A1 nt c1]) ∧ (Kd.C k31 w' A1 nt tk ∧ nt ≤ c1) ∧ Below W.heap.size W w' from by
    rw [← hm]
    refine (text_call W A c P hP hc hok hsz hts mm hmm).mono ?_
    rintro e w' ⟨vt, rfl, hr, hb⟩
    rw [hs]
    rw [htk] at hr
    obtain ⟨A1, c1, rfl⟩ := Kd.R_slice hr
    obtain ⟨h1, h2, h3⟩ := Kd.R_reads' hr
    rw [hnt] at h2 h3 ⊢
    exact ⟨A1, c1, rfl, ⟨h3, h2⟩, hb⟩)
  rw [hs, htk] at hsc hyl
  rw [htk, hnt] at htl
  have HSC := Aside0.mk (show ∀ w, Calls Tryz.prog 7 #[.string s] w fun e w' => ∃ A1 c1, e = .returned (.tuple #[.slice A1 nt c1, .int .i64 0, .int .i64 0]) ∧ (Kd.C k31 w' A1 nt tk ∧ nt ≤ c1) ∧ Below w.heap.size w w' from fun w => by
    refine (token_Scan.calls s tk 0 0 w hsc).mono ?_
    rintro e w' ⟨v, rfl, hr, hb⟩
    obtain ⟨A1, c1, rfl⟩ := Kd.R_slice hr
    obtain ⟨h1, h2, h3⟩ := Kd.R_reads' hr
    rw [hnt] at h2 h3 ⊢
    exact ⟨A1, c1, rfl, ⟨h3, h2⟩, hb⟩)
  have HYL := Aside0.mk (show ∀ w, Calls Tryz.prog 9 #[.string s] w fun e w' => ∃ A1 c1, e = .returned (.slice A1 nt c1) ∧ (Kd.C k31 w' A1 nt tk ∧ nt ≤ c1) ∧ Below w.heap.size w w' from fun w => by
    refine (yielded_calls s tk w hyl).mono ?_
    rintro e w' ⟨v, rfl, hr, hb⟩
    obtain ⟨A1, c1, rfl⟩ := Kd.R_slice hr
    obtain ⟨h1, h2, h3⟩ := Kd.R_reads' hr
    rw [hnt] at h2 h3 ⊢
    exact ⟨A1, c1, rfl, ⟨h3, h2⟩, hb⟩)
  have HEQ := Aside0.mk (show ∀ w A0 A1 c0 c1, (Kd.C k31 w A0 nt tk ∧ nt ≤ c0) → (Kd.C k31 w A1 nt tk ∧ nt ≤ c1) → Calls Tryz.prog 8 #[.slice A0 nt c0, .slice A1 nt c1] w fun e w' => e = .returned (.bool true) ∧ Below w.heap.size w w' from fun w A0 A1 c0 c1 h0 h1 => eqK_call tk nt hnt (by omega) w A0 A1 c0 c1 h0.1 h0.2 h1.1 h1.2)
  rw [hm]
  clear hP hc hok hsz hts hmm hs htk hnt hm hsc hyl
  go_enter Tryz.func3, Tryz.ntmps3
  go_upto_region 3 with (first
    | (go_at_call 6; (with_reducible refine HTX.out.mono ?_); rintro e w1 ⟨A1, c1, rfl, hc1, hb1⟩; have HC1 := Aside0.mk hc1; have HB1 := Aside0.mk hb1; clear hc1 hb1)
    | (go_at_call 7; (with_reducible refine (HSC.out _).mono ?_); rintro e w2 ⟨A2, c2, rfl, hc2, hb2⟩; have HC2 := Aside0.mk hc2; have HB2 := Aside0.mk (HB1.out.trans (hb2.mono HB1.out.size)); have HC12 := Aside0.mk (And.intro (Kd.C_below HC1.out.1 hb2) HC1.out.2); clear hc2 hb2))
  go_wp2_with (first
    | (go_at_call 8; (with_reducible refine (HEQ.out _ _ _ _ _ HC2.out HC12.out).mono ?_); rintro e w3 ⟨rfl, hb3⟩; have HB3 := Aside0.mk (HB2.out.trans (hb3.mono HB2.out.size)); have HC13 := Aside0.mk (And.intro (Kd.C_below HC12.out.1 hb3) HC12.out.2); clear hb3 HC2)
    | (go_at_call 9; (with_reducible refine (HYL.out _).mono ?_); rintro e w4 ⟨A4, c4, rfl, hc4, hb4⟩; have HC4 := Aside0.mk hc4; have HB4 := Aside0.mk (HB3.out.trans (hb4.mono HB3.out.size)); have HC14 := Aside0.mk (And.intro (Kd.C_below HC13.out.1 hb4) HC13.out.2); clear hc4 hb4)
    | (go_at_call 8; (with_reducible refine (HEQ.out _ _ _ _ _ HC4.out HC14.out).mono ?_); rintro e w5 ⟨rfl, hb5⟩; have HB5 := Aside0.mk (HB4.out.trans (hb5.mono HB4.out.size)); clear hb5)
    | (go_at_call 10; (with_reducible refine (works_calls _).mono ?_); rintro e w6 ⟨rfl, hb6⟩; have HB6 := Aside0.mk (HB5.out.trans (hb6.mono HB5.out.size)); clear hb6))
  go_ret
  exact ⟨rfl, HB6.out⟩
end Go.Proofs.YtlpoglkddknedaaGreatDoor.R

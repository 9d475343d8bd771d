/- TokenLong: the row proved, and its tied card: the law answers true for every input, what came in reads as before. Conditions: those of the statement. -/
import Derived.Test.YtlpoglkddknedaaGreatDoorTie
import Derived.Test.YtlpoglkddknedaaGreatDoorCards
import Derived.Test.YtlpoglkddknedaaGreatDoorOz
import Derived.Test.YtlpoglkddknedaaGreatDoorUl
import Derived.ProofKit
import Derived.OpenShut
import Derived.LaidMore
import Derived.Lay
import Derived.Carry
import Derived.SevenTiedAt
import Derived.Stop.Joined
namespace Go.Proofs.YtlpoglkddknedaaGreatDoor.tokenLong
open Go.ChangeShapes Go.WideShapes Go.ChangeAt Go.RowKit
set_option linter.unusedVariables false
set_option linter.unusedSimpArgs false
theorem own : ownKnob Tryz.prog.godebug = none := by kernel_rfl
set_option maxRecDepth 100000 in
theorem lifted (os : Os) (started : os.Started) (H : Type) (enc : TypeId × Value → H) :
    ReturnsInHanded {} Tryz.checked os 5 .any (fun w args => (Rows.tokenLongSpec.pre enc Tryz.prog Tryz.f5 Rows.tokenLongRow.domain false w args ∧ laidMetH Tryz.prog Rows.tokenLongRow.laid w) ∧ sizedMet enc Tryz.prog Tryz.f5 (OpenSpec.ofChange Rows.tokenLongSpec) false w args)
      (Rows.tokenLongSpec.post enc Tryz.prog Tryz.f5 false true false false) := by
  refine Go.Proofs.YtlpoglkddknedaaGreatDoor.O.handed_sized_of (C := Tryz.checked) (X := fun w => laidMetH Tryz.prog Rows.tokenLongRow.laid w) (fun _ _ hh h => h.of_heap hh) own started (by kernel_rfl) Tryz.func5
    (ChangeSpec.witness_shaped (enc := enc) (C := Tryz.checked) (os := os) (X := fun w _ => laidMetH Tryz.prog Rows.tokenLongRow.laid w) false (World.laidAll Tryz.prog os Rows.tokenLongRow.laid) #[.int .u16 0, .int .u8 0, .slice none 0 0] 8 (World.laidAll_os _ _ _)
      (World.shaped_of_ZipB (by kernel_rfl) (by kernel_rfl)) (by kernel_rfl) (by kernel_rfl) (by kernel_rfl)
      (by rw [MakeChecks.laidMetH_plain _ _ _ (by kernel_rfl)]; exact laidMet_laidAll _ (by kernel_rfl) (by kernel_rfl))) ?_
  intro W base args ds gs before hsh hL hval0 hsz hW
  have hval : ∀ (j : Nat) t v, Tryz.f5.params[j]? = some t → args[j]? = some v → Value.okWide Tryz.prog W .any base t v := hval0
  have hW' := hW
  obtain ⟨p, q, hA0, hV, rfl, hfz, hnd⟩ := hW
  have hA : DataW.TrodAll enc Tryz.prog W 0 (fun _ => true) true Tryz.f5.params.toList args.toList ds p := hA0
  rw [Tryz.params5] at hA hval
  obtain ⟨v0, vs0, d0, ds0, p0, q0, hargs, rfl, rfl, h0, r0⟩ := trodAll_cons hA
  obtain ⟨v1, vs1, d1, ds1, p1, q1, rfl, rfl, rfl, h1, r1⟩ := trodAll_cons r0
  obtain ⟨v2, vs2, d2, ds2, p2, q2, rfl, rfl, rfl, h2, r2⟩ := trodAll_cons r1
  obtain ⟨rfl, rfl, rfl⟩ := trodAll_nil r2
  obtain rfl : args = #[v0, v1, v2] := by cases args; simp_all
  obtain ⟨rfl, rfl⟩ := trodVars_none hV
  have h2k := h2
  obtain ⟨x0, rfl, rfl, rfl, y0⟩ := open_int Tryz.underlying36 (hval 0 36 v0 rfl rfl) h0
  obtain ⟨x1, rfl, rfl, rfl, y1⟩ := open_int Tryz.underlying5 (hval 1 5 v1 rfl rfl) h1
  obtain ⟨A, c, P, rfl, hc0, hP, hok⟩ := Go.Proofs.YtlpoglkddknedaaGreatDoor.O.open_pieces (j0 := 2) (hval 2 22 v2 rfl rfl) hsz rfl rfl h2
  have hlt : ∀ x ∈ p2, x.block < W.heap.size := fun x hx => by simpa using hW'.lt x (by simp [hx])
  obtain ⟨mm, hmm⟩ := Go.Proofs.YtlpoglkddknedaaGreatDoor.O.maxLen_of hsh
  have hy0 : (decide (IntKind.min .u16 ≤ x0) && decide (x0 ≤ IntKind.max .u16)) = true := y0
  rw [Bool.and_eq_true] at hy0
  have hx00 : (0 : Int) ≤ x0 := of_decide_eq_true hy0.1
  have hx01 : x0 ≤ (65535 : Int) := of_decide_eq_true hy0.2
  have hy1 : (decide (IntKind.min .u8 ≤ x1) && decide (x1 ≤ IntKind.max .u8)) = true := y1
  rw [Bool.and_eq_true] at hy1
  have hx10 : (0 : Int) ≤ x1 := of_decide_eq_true hy1.1
  have hx11 : x1 ≤ (255 : Int) := of_decide_eq_true hy1.2
  refine (Go.Proofs.YtlpoglkddknedaaGreatDoor.R.long_call W A c P hP hc0 hok mm hmm x0 ⟨hx00, hx01⟩ x1 ⟨hx10, hx11⟩).mono fun e W' ⟨he, bel⟩ => ?_
  subst he
  exact ⟨_, rfl, _, _, _, [], _, [], hW', trodAll_mk1 (shut_bool Tryz.underlying4 _), (trodAll_cons_mk (shut_int Tryz.underlying36 y0) (trodAll_cons_mk (shut_int Tryz.underlying5 y1) (trodAll_cons_mk (Below.trod Go.Proofs.YtlpoglkddknedaaGreatDoor.O.laidOut (by kernel_rfl) (of_decide_eq_true (by kernel_rfl)) h2k bel hlt) trodAll_mk0))), rfl, bel.frame _, fun h => by cases h⟩
theorem over : Rows.TokenLongSaid :=
  OpenClaim.holds_of_wide 5 Tryz.f5 rfl rfl rfl rfl rfl rfl rfl ⟨rfl, rfl, rfl, rfl, rfl⟩ rfl rfl rfl rfl rfl (by kernel_rfl) Tryz.func5 (by kernel_rfl)
    (of_decide_eq_true (by kernel_rfl)) (by unfold Func.isWrapper; first | (rw [if_pos (by decide +kernel)]; kernel_rfl) | (rw [if_neg (by decide +kernel)]; exact ⟨rfl, rfl⟩))
    (fun os started H enc _ => lifted os started H enc)
theorem card : Rows.TokenLongCardSaid :=
  Claim7.holds_tied_plain_at .later [] [.data, .pinned] true (true, "546f1210ec560b868330015b7342a48b20848761ec9c67d64312af158189f1c1") true over (fun _ h => by cases h) (by kernel_rfl) (fun _ h => by cases h) tokenLong_row_tie rfl ⟨rfl, rfl⟩ (by kernel_rfl) rfl
    (fun f fn hf hfn => by
      obtain rfl : f = 5 := Option.some.inj ((show Tryz.prog.funcNamed "tempo/tempolaw23.TokenLong" = some 5 by kernel_rfl).symm.trans hf) |>.symm
      obtain rfl : fn = Tryz.f5 := (Option.some.inj (Tryz.func5.symm.trans hfn)).symm
      exact ⟨by kernel_rfl, fun j t ht => by
        rw [Tryz.params5] at ht
        have hm : t ∈ ([36, 5, 22] : List TypeId) := by simpa using Array.mem_of_getElem? ht
        have hall : (([36, 5, 22] : List TypeId).all fun u => !Tryz.prog.wantsStandIn u) = true := by kernel_rfl
        exact (show Tryz.prog.wantsStandIn t = false by simpa using List.all_eq_true.1 hall t hm)⟩)
    (by kernel_rfl)
#print axioms card
end Go.Proofs.YtlpoglkddknedaaGreatDoor.tokenLong
namespace Go.Proofs.YtlpoglkddknedaaGreatDoor
/-- The tied card, under a short name, for the claim. -/
theorem tokenLong_card : Rows.TokenLongCardSaid := tokenLong.card
end Go.Proofs.YtlpoglkddknedaaGreatDoor

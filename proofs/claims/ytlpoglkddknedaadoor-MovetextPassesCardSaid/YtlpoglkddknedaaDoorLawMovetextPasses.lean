/- MovetextPasses: the row proved, and its tied card: the law answers true for every input, what came in reads as before. Conditions: those of the statement. -/
import Derived.Test.YtlpoglkddknedaaDoorTie
import Derived.Test.YtlpoglkddknedaaDoorCards
import Derived.Test.YtlpoglkddknedaaDoorHz
import Derived.Test.YtlpoglkddknedaaDoorHr3
import Derived.Test.YtlpoglkddknedaaDoorHz3
import Derived.Test.YtlpoglkddknedaaDoorHz5
import Derived.ProofKit
import Derived.OpenShut
import Derived.LaidMore
import Derived.Lay
import Derived.Carry
import Derived.SevenTiedAt
import Derived.Stop.Joined
namespace Go.Proofs.YtlpoglkddknedaaDoor.movetextPasses
open Go.ChangeShapes Go.WideShapes Go.ChangeAt Go.RowKit
set_option linter.unusedVariables false
set_option linter.unusedSimpArgs false
theorem own : ownKnob Tryd.prog.godebug = none := by kernel_rfl
set_option maxRecDepth 100000 in
theorem lifted (os : Os) (started : os.Started) (H : Type) (enc : TypeId × Value → H) :
    ReturnsInHanded {} Tryd.checked os 7 .any (fun w args => (Rows.movetextPassesSpec.pre enc Tryd.prog Tryd.f7 Rows.movetextPassesRow.domain false w args ∧ laidMetH Tryd.prog Rows.movetextPassesRow.laid w) ∧ sizedMet enc Tryd.prog Tryd.f7 (OpenSpec.ofChange Rows.movetextPassesSpec) false w args)
      (Rows.movetextPassesSpec.post enc Tryd.prog Tryd.f7 false true false false) := by
  refine returnsInHanded_of_change_and (C := Tryd.checked) (X := fun w _ => laidMetH Tryd.prog Rows.movetextPassesRow.laid w) (fun _ _ _ hh h => h.of_heap hh) own started (by kernel_rfl) Tryd.func7
    (ChangeSpec.witness_shaped (enc := enc) (C := Tryd.checked) (os := os) (X := fun w _ => laidMetH Tryd.prog Rows.movetextPassesRow.laid w) false (World.laidAll Tryd.prog os Rows.movetextPassesRow.laid) #[.slice none 0 0, .int .u8 0, .slice none 0 0, .slice none 0 0] 8 (World.laidAll_os _ _ _)
      (World.shaped_of_ZipB (by kernel_rfl) (by kernel_rfl)) (by kernel_rfl) (by kernel_rfl) (by kernel_rfl)
      (by rw [MakeChecks.laidMetH_plain _ _ _ (by kernel_rfl)]; exact laidMet_laidAll _ (by kernel_rfl) (by kernel_rfl))) ?_
  intro W base args ds gs before hval0 hW hcnd hsz hL _
  have hval : ∀ (j : Nat) t v, Tryd.f7.params[j]? = some t → args[j]? = some v → Value.okWide Tryd.prog W .any base t v := hval0
  have hW' := hW
  obtain ⟨p, q, hA0, hV, rfl, hfz, hnd⟩ := hW
  have hA : DataW.TrodAll enc Tryd.prog W 0 (fun _ => true) true Tryd.f7.params.toList args.toList ds p := hA0
  rw [Tryd.params7] at hA hval
  obtain ⟨v0, vs0, d0, ds0, p0, q0, hargs, rfl, rfl, h0, r0⟩ := trodAll_cons hA
  obtain ⟨v1, vs1, d1, ds1, p1, q1, rfl, rfl, rfl, h1, r1⟩ := trodAll_cons r0
  obtain ⟨v2, vs2, d2, ds2, p2, q2, rfl, rfl, rfl, h2, r2⟩ := trodAll_cons r1
  obtain ⟨v3, vs3, d3, ds3, p3, q3, rfl, rfl, rfl, h3, r3⟩ := trodAll_cons r2
  obtain ⟨rfl, rfl, rfl⟩ := trodAll_nil r3
  obtain rfl : args = #[v0, v1, v2, v3] := by cases args; simp_all
  obtain ⟨rfl, rfl⟩ := trodVars_none hV
  have h0k := h0
  have h2k := h2
  have h3k := h3
  obtain ⟨A, c, l, rfl, hc0, hC, hs⟩ := Go.Proofs.YtlpoglkddknedaaDoor.H.open_bytes (hval 0 64 v0 rfl rfl) h0
  obtain ⟨x1, rfl, rfl, rfl, y1⟩ := open_int Tryd.underlying5 (hval 1 5 v1 rfl rfl) h1
  obtain ⟨An, cn, N, rfl, hcn, hN, hNr⟩ := Go.Proofs.YtlpoglkddknedaaDoor.H.open_noise (hval 2 65 v2 rfl rfl) h2
  obtain ⟨Am, cm, more, rfl, hcm, hCm, hms⟩ := Go.Proofs.YtlpoglkddknedaaDoor.H.open_toks (hval 3 23 v3 rfl rfl) h3
  have hlt : ∀ x ∈ p0, x.block < W.heap.size := fun x hx => by simpa using hW'.lt x (by simp [hx])
  have hlt2 : ∀ x ∈ p2, x.block < W.heap.size := fun x hx => by simpa using hW'.lt x (by simp [hx])
  have hlt3 : ∀ x ∈ p3, x.block < W.heap.size := fun x hx => by simpa using hW'.lt x (by simp [hx])
  have hy : (decide (IntKind.min .u8 ≤ x1) && decide (x1 ≤ IntKind.max .u8)) = true := y1
  rw [Bool.and_eq_true] at hy
  have hx1 : (0 : Int) ≤ x1 := of_decide_eq_true hy.1
  have hx2 : x1 ≤ (255 : Int) := of_decide_eq_true hy.2
  refine (Go.Proofs.YtlpoglkddknedaaDoor.Z.Passes_calls W A c l hC hc0 hs x1 hx1 hx2 An cn N hcn hN hNr Am cm more hCm hcm hms (Go.Proofs.YtlpoglkddknedaaDoor.H.laid_of hL)).mono fun e W' ⟨he, bel⟩ => ?_
  subst he
  exact ⟨_, rfl, _, _, _, [], _, [], hW', trodAll_mk1 (shut_bool Tryd.underlying4 _), (trodAll_cons_mk (Below.trod Go.Proofs.YtlpoglkddknedaaDoor.H.laidOut (by kernel_rfl) (of_decide_eq_true (by kernel_rfl)) h0k bel hlt) (trodAll_cons_mk (shut_int Tryd.underlying5 y1) (trodAll_cons_mk (Below.trod Go.Proofs.YtlpoglkddknedaaDoor.H.laidOut (by kernel_rfl) (of_decide_eq_true (by kernel_rfl)) h2k bel hlt2) (trodAll_cons_mk (Below.trod Go.Proofs.YtlpoglkddknedaaDoor.H.laidOut (by kernel_rfl) (of_decide_eq_true (by kernel_rfl)) h3k bel hlt3) trodAll_mk0)))), rfl, bel.frame _, fun h => by cases h⟩
theorem over : Rows.MovetextPassesSaid :=
  OpenClaim.holds_of_wide 7 Tryd.f7 rfl rfl rfl rfl rfl rfl rfl ⟨rfl, rfl, rfl, rfl, rfl⟩ rfl rfl rfl rfl rfl (by kernel_rfl) Tryd.func7 (by kernel_rfl)
    (of_decide_eq_true (by kernel_rfl)) (by unfold Func.isWrapper; first | (rw [if_pos (by decide +kernel)]; kernel_rfl) | (rw [if_neg (by decide +kernel)]; exact ⟨rfl, rfl⟩))
    (fun os started H enc _ => lifted os started H enc)
theorem card : Rows.MovetextPassesCardSaid :=
  Claim7.holds_tied_plain_at .later [] [.data, .data, .data, .data, .data, .pinned] true (true, "938fbf7507c023230ff7923b084cc5d74fef5a5353f6ebde9efe5741a86a4e65") false over (fun _ h => by cases h) (by kernel_rfl) (fun _ h => by cases h) movetextPasses_row_tie rfl ⟨rfl, rfl⟩ (by kernel_rfl) rfl
    (fun f fn hf hfn => by
      obtain rfl : f = 7 := Option.some.inj ((show Tryd.prog.funcNamed "tempo/tempolaw25.MovetextPasses" = some 7 by kernel_rfl).symm.trans hf) |>.symm
      obtain rfl : fn = Tryd.f7 := (Option.some.inj (Tryd.func7.symm.trans hfn)).symm
      exact ⟨by kernel_rfl, fun j t ht => by
        rw [Tryd.params7] at ht
        have hm : t ∈ ([64, 5, 65, 23] : List TypeId) := by simpa using Array.mem_of_getElem? ht
        have hall : (([64, 5, 65, 23] : List TypeId).all fun u => !Tryd.prog.wantsStandIn u) = true := by kernel_rfl
        exact (show Tryd.prog.wantsStandIn t = false by simpa using List.all_eq_true.1 hall t hm)⟩)
    (by kernel_rfl)
#print axioms card
end Go.Proofs.YtlpoglkddknedaaDoor.movetextPasses
namespace Go.Proofs.YtlpoglkddknedaaDoor
/-- The tied card, under a short name, for the claim. -/
theorem movetextPasses_card : Rows.MovetextPassesCardSaid := movetextPasses.card
end Go.Proofs.YtlpoglkddknedaaDoor

/- What MovetextLines's row gives the walk: the variables. No condition of its own. -/
import Derived.Test.YtlpoglkddknedaaDoorHz
import Derived.Test.YtlpoglkddknedaaDoorHz3
import Derived.Test.YtlpoglkddknedaaDoorHj
import Derived.Shelf.Vars
import Derived.Handed
namespace Go.Proofs.YtlpoglkddknedaaDoor.H
open Go.Shelf Go.RowKit Go.Deep Go.ChangeShapes Go.WideShapes Go.Proofs.YtlpoglkddknedaaDoor.T Go.Proofs.YtlpoglkddknedaaDoorW.PrintWords Go.Proofs.YtlpoglkddknedaaDoorW.PrintLast
set_option linter.unusedVariables false
set_option linter.unusedSimpArgs false

set_option maxRecDepth 100000 in
theorem laid_ofL {W : World} (h : laidMetH Tryd.prog Rows.movetextLinesRow.laid W) : Laid W ∧ Lib.TabIs Tryd.prog W "strings.asciiSpace" .u8 Lib.asciiSpaceTab := by
  rw [MakeChecks.laidMetH_plain _ _ _ (by kernel_rfl)] at h
  have h3 := laidMet.tail (laidMet.tail h)
  have h6 := laidMet.tail (laidMet.tail (laidMet.tail h3))
  have h5 := laidMet.tail h6
  refine ⟨⟨?_, ?_⟩, ?_⟩
  · obtain ⟨ps, ⟨g, t, cs, fuel, p, q, hg, ht, hv, hd, _, _⟩, _, _⟩ := h5
    obtain rfl := Option.some.inj (g_res.symm.trans hg)
    obtain rfl := Option.some.inj ((show (Tryd.prog.globals[0]?).map (·.type) = some 109 by kernel_rfl).symm.trans ht)
    obtain ⟨xs, m, _, ex, hlc, hl, hel⟩ := DataW.trod_array Tryd.underlying109 hd
    have ct : Tryd.prog.cellsOf 109 = 4 := by kernel_rfl
    rw [ct] at hlc
    have each : ∀ i, i < 4 → ∃ s : ByteArray, (cs.toList.drop i).take 1 = [.string s] ∧ xs[i]? = some (.lit (.string s.data.toList), []) := by
      intro i hi
      have h1 := hel i hi
      rw [cells9, Nat.mul_one, List.getElem?_eq_getElem (by omega)] at h1
      obtain ⟨s, e1, e2, _⟩ := DataW.trod_string Tryd.underlying9 h1
      exact ⟨s, e1, by rw [List.getElem?_eq_getElem (by omega), e2]⟩
    obtain ⟨s0, a0, b0⟩ := each 0 (by decide)
    obtain ⟨s1, a1, b1⟩ := each 1 (by decide)
    obtain ⟨s2, a2, b2⟩ := each 2 (by decide)
    obtain ⟨s3, a3, b3⟩ := each 3 (by decide)
    have em : xs.map (·.1) = [.lit (.string [42]), .lit (.string [49, 45, 48]), .lit (.string [48, 45, 49]), .lit (.string [49, 47, 50, 45, 49, 47, 50])] := (DataW.agg.inj (Prod.mk.inj ex).1).symm
    have lit : ∀ (i : Nat) (s : ByteArray), xs[i]? = some (.lit (.string s.data.toList), []) → (xs.map (·.1))[i]? = some (.lit (.string s.data.toList)) := fun i s h => by rw [List.getElem?_map, h]; rfl
    have g0 := lit 0 s0 b0
    have g1 := lit 1 s1 b1
    have g2 := lit 2 s2 b2
    have g3 := lit 3 s3 b3
    rw [em] at g0 g1 g2 g3
    have d0 : s0.data.toList = [42] := by have h := DataW.lit.inj (Option.some.inj g0); injection h with h; exact h.symm
    have d1 : s1.data.toList = [49, 45, 48] := by have h := DataW.lit.inj (Option.some.inj g1); injection h with h; exact h.symm
    have d2 : s2.data.toList = [48, 45, 49] := by have h := DataW.lit.inj (Option.some.inj g2); injection h with h; exact h.symm
    have d3 : s3.data.toList = [49, 47, 50, 45, 49, 47, 50] := by have h := DataW.lit.inj (Option.some.inj g3); injection h with h; exact h.symm
    have mk : ∀ (s : ByteArray) (l : List UInt8), s.data.toList = l → s = ⟨l.toArray⟩ := fun s l h => by cases s with | mk d => congr 1; rw [← h]
    obtain rfl := mk _ _ d0
    obtain rfl := mk _ _ d1
    obtain rfl := mk _ _ d2
    obtain rfl := mk _ _ d3
    rw [hv]
    congr 1
    rw [← Array.toArray_toList (xs := cs)]
    match hcs : cs.toList, hlc, a0, a1, a2, a3 with
    | [u0, u1, u2, u3], _, a0, a1, a2, a3 =>
      simp only [List.drop_zero, List.take_succ_cons, List.take_zero, List.drop_succ_cons, List.cons.injEq, and_true] at a0 a1 a2 a3
      subst a0 a1 a2 a3
      rfl
  · exact Lib.tabIs_of_head g_pow (by kernel_rfl) Tryd.underlying169 Tryd.underlying125 (by kernel_rfl) (by kernel_rfl) h3
  · exact Lib.tabIs_of_head Go.Proofs.YtlpoglkddknedaaDoor.Y.g_asc (by kernel_rfl) Tryd.underlying112 Tryd.underlying5 (by kernel_rfl) (by kernel_rfl) h6

/-- A row's claim out of a contract, where the world's shape and one more fact of its blocks are wanted. -/
theorem handed_of {H : Type} {enc : TypeId × Value → H} {a : Assume} {C : Checked} {os : Os} {f : FuncId} {fn : Func} {s : ChangeSpec} {apart fresh handsOn again : Bool} {X : World → Prop}
    (hX : ∀ w w' : World, w.heap = w'.heap → X w → X w') (own : ownKnob C.prog.godebug = none) (started : os.Started) (noInit : C.prog.inits.idxOf? f = none) (hfn : C.prog.funcs[f]? = some fn)
    (witness : ∃ (w : World) (tape : Tape) (i : Input), w.os = os ∧ (w.forCall tape i).Shaped C.prog ∧ i.vars = [] ∧ Input.okWide C.prog (w.forCall tape i) .any w.heap.size f i ∧
      ((s.pre enc C.prog fn [] apart (w.forCall tape i).memory i.args ∧ X (w.forCall tape i).memory) ∧ sizedMet enc C.prog fn (OpenSpec.ofChange s) apart (w.forCall tape i).memory i.args) ∧ a.holds C.prog (lone (Frame.enter C.prog f i.args .normal) [] (w.forCall tape i)))
    (contract : ∀ (W : World) (base : Nat) (args : Array Value) (ds gs : List (DataW H)) (before : List MemPlace), W.ShapedOpen C.prog → X W →
      (∀ (j : Nat) t v, fn.params[j]? = some t → args[j]? = some v → Value.okWide C.prog W .any base t v) → DataW.Whole enc C.prog fn.params.toList s.vars apart W args.toList ds gs before →
      Calls C.prog f args W fun e W' => ∃ v, e = .returned v ∧ s.post enc C.prog fn apart fresh handsOn again W args v W') :
    ReturnsInHanded a C os f .any (fun w args => (s.pre enc C.prog fn [] apart w args ∧ X w) ∧ sizedMet enc C.prog fn (OpenSpec.ofChange s) apart w args) (s.post enc C.prog fn apart fresh handsOn again) := by
  refine returnsInHanded_of_calls own started noInit witness fun w tape i _ hshape _ hok hpre _ => ?_
  obtain ⟨_, _, _, g, hg, _, _, _, _, hval⟩ := hok
  cases Option.some.inj (hg.symm.trans hfn)
  obtain ⟨⟨⟨ds, gs, before, hw, _⟩, hx⟩, _⟩ := hpre
  have key := contract (w.forCall tape i) w.heap.size i.args ds gs before hshape (hX (w.forCall tape i).memory (w.forCall tape i) (by rfl) hx) hval (DataW.Whole.of_heap (w' := w.forCall tape i) (by rfl) hw)
  exact key.mono fun e W' h => by
    obtain ⟨v, rfl, hp⟩ := h
    exact ChangeSpec.post_blind hp
theorem maxLen_of {W : World} (h : W.ShapedOpen Tryd.prog) : ∃ m, W.cell? ⟨3, 0, none⟩ = some (.int .i64 m) :=
  cell_of_shapedOpen_int (g := 3) (t := 3) (zero := #[.int .i64 0]) h (of_decide_eq_true (by kernel_rfl)) (by kernel_rfl) rfl (by kernel_rfl) (by kernel_rfl) Tryd.underlying3
end Go.Proofs.YtlpoglkddknedaaDoor.H

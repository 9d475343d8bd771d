/- What a row's conditions give the walks: pieces that came in. No condition of its own. -/
import Derived.Test.YtlpoglkddknedaaGreatDoorTz
import Derived.Test.YtlpoglkddknedaaGreatDoorRows
import Derived.Deep.Strs
import Derived.Deep.Slices
import Derived.SizedLaws
import Derived.Stop.LaidErr
import Derived.MakeChecks
import Derived.LaidMore
import Derived.ProofKit
import Derived.OpenShut
import Derived.Shelf.Vars
import Derived.Handed
namespace Go.Proofs.YtlpoglkddknedaaGreatDoor.O
open Go.Shelf Go.RowKit Go.Deep Go.ChangeShapes Go.WideShapes Go.ChangeAt Go.Proofs.YtlpoglkddknedaaGreatDoor.T Go.Proofs.YtlpoglkddknedaaGreatDoor.H Go.Proofs.YtlpoglkddknedaaGreatDoor.R Go.Proofs.YtlpoglkddknedaaGreatDoorW.PrintWords Go.Proofs.YtlpoglkddknedaaGreatDoorW.PrintLast
set_option linter.unusedVariables false
set_option linter.unusedSimpArgs false
theorem laidOut : laidOutB Tryz.prog = true := by kernel_rfl
theorem cells5 : Tryz.prog.cellsOf 5 = 1 := by kernel_rfl
theorem cells42 : Tryz.prog.cellsOf 42 = 1 := by kernel_rfl
theorem cells46 : Tryz.prog.cellsOf 46 = 4 := by kernel_rfl
theorem bytes5 : Tryz.prog.bytesOf 5 = 1 := by kernel_rfl
theorem fields46 : ∃ f0 f1 f2 f3 : Field, Tryz.prog.underlying 46 = some (.struct #[f0, f1, f2, f3]) ∧ (f0.type = 5 ∧ f0.offset = 0) ∧ (f1.type = 5 ∧ f1.offset = 1) ∧ (f2.type = 5 ∧ f2.offset = 2) ∧ f3.type = 42 ∧ f3.offset = 3 := ⟨_, _, _, _, Tryz.underlying46, ⟨rfl, rfl⟩, ⟨rfl, rfl⟩, ⟨rfl, rfl⟩, rfl, rfl⟩
instance : Inhabited Pc := ⟨⟨0, 0, 0, []⟩⟩
theorem weightsAll_mem {H : Type} {P : Program} {e : TypeId} {n : Nat} {d : DataW H} (hn : n ∈ d.weights P e) : ∀ {l : List (DataW H)}, d ∈ l → n ∈ DataW.weightsAll P e l
  | x :: r, h => by
    rw [DataW.weightsAll, List.mem_append]
    rcases List.mem_cons.1 h with rfl | h
    · exact .inl hn
    · exact .inr (weightsAll_mem hn h)
section
variable {P : Program} {H : Type} {enc : TypeId × Value → H} {w : World} {base : Nat} {spare : Nat → Bool} {held : Bool}
theorem trod_struct4 {t : TypeId} {f0 f1 f2 f3 : Field} {fuel : Nat} {cs : List Value} {x : DataW H × List MemPlace} (ht : P.underlying t = some (.struct #[f0, f1, f2, f3])) (h : DataW.trod enc P w base spare held fuel t cs = some x) :
    ∃ y0 y1 y2 y3 n, x = (.agg [y0.1, y1.1, y2.1, y3.1], y0.2 ++ (y1.2 ++ (y2.2 ++ y3.2))) ∧ cs.length = P.cellsOf t ∧ DataW.trod enc P w base spare held n f0.type ((cs.drop f0.offset).take (P.cellsOf f0.type)) = some y0 ∧
      DataW.trod enc P w base spare held n f1.type ((cs.drop f1.offset).take (P.cellsOf f1.type)) = some y1 ∧ DataW.trod enc P w base spare held n f2.type ((cs.drop f2.offset).take (P.cellsOf f2.type)) = some y2 ∧ DataW.trod enc P w base spare held n f3.type ((cs.drop f3.offset).take (P.cellsOf f3.type)) = some y3 := by
  obtain ⟨xs, n, _, rfl, hl, hlen, hf⟩ := DataW.trod_struct ht h
  match xs, hlen with
  | [y0, y1, y2, y3], _ => exact ⟨y0, y1, y2, y3, n, by simp, hl, by simpa using hf 0 f0 rfl, by simpa using hf 1 f1 rfl, by simpa using hf 2 f2 rfl, by simpa using hf 3 f3 rfl⟩
end
section
variable {H : Type} {enc : TypeId × Value → H} {W : World} {b0 : Nat}
theorem byte_of {z : Int} (h : (Lit.int .u8 z).wf = true) : 0 ≤ z ∧ z ≤ 255 := by
  have hy : (decide (IntKind.min .u8 ≤ z) && decide (z ≤ IntKind.max .u8)) = true := h
  rw [Bool.and_eq_true] at hy
  have h1 : (0 : Int) ≤ z := of_decide_eq_true hy.1
  have h2 : z ≤ (255 : Int) := of_decide_eq_true hy.2
  exact ⟨h1, h2⟩
/-- The inner row of bytes. -/
theorem open_inner {n : Nat} {u : Value} {y : DataW H × List MemPlace} (h : DataW.trod enc Tryz.prog W 0 (fun _ => true) true n 42 [u] = some y) (hsz : ∀ k ∈ DataW.weights Tryz.prog 42 y.1, k ≤ reachBytes) :
    ∃ (A : Option Addr) (c : Nat) (B : List Int), u = .slice A B.length c ∧ B.length ≤ c ∧ Kd.C (Kd.int .u8) W A B.length B ∧ (∀ x ∈ B, 0 ≤ x ∧ x ≤ 255) ∧ (A = none → c = 0) ∧ B.length ≤ 140737488351232 := by
  rcases open_ints Tryz.underlying42 Tryz.underlying5 cells5 h with ⟨hcs, _⟩ | ⟨a, len, cap, zs, hcs, _, hl, hm, hz, hy, hcell, hwz⟩
  · injection hcs with h1 _
    subst h1
    exact ⟨none, 0, [], rfl, Nat.le_refl _, ⟨rfl, Nat.zero_le _, fun h => absurd h (Nat.lt_irrefl 0)⟩, fun t ht => absurd ht List.not_mem_nil, fun _ => rfl, Nat.zero_le _⟩
  · injection hcs with h1 _
    subst h1
    simp only [if_true] at hz
    have hlen : (zs.take len).length = len := by rw [List.length_take]; omega
    have hw : zs.length ≤ reachBytes := by
      refine hsz _ ?_
      rw [hy]
      simp only [DataW.weights, Tryz.underlying42, List.mem_cons]
      left
      rw [bytes5]
      simp only [lits, List.length_map, List.length_take, List.length_drop]
      omega
    refine ⟨some a, cap, zs.take len, by rw [hlen], by rw [hlen]; exact hl, ⟨rfl, by rw [hlen]; unfold maxLen at hm; omega, fun _ => ⟨a, rfl, fun j p hp => ?_⟩⟩, fun x hx => byte_of (hwz x (List.mem_of_mem_take hx)), fun e => absurd e (by simp), ?_⟩
    · have hj : j < len := by have := (List.getElem?_eq_some_iff.1 hp).1; omega
      rw [List.getElem?_take, if_pos hj] at hp
      refine ⟨[.int .u8 p], rfl, rfl, fun i u hu => ?_⟩
      match i, hu with
      | 0, hu =>
        obtain rfl := Option.some.inj hu
        show W.cell? (a.add (j * 1 + 0)) = _
        rw [Nat.mul_one, Nat.add_zero, hcell j (by omega), List.getD_eq_getElem?_getD, hp]
        rfl
    · rw [hlen]
      exact Nat.le_trans (show len ≤ zs.length by omega) hw
set_option maxRecDepth 100000 in
theorem open_pieces {v : Value} {d : DataW H} {ps : List MemPlace} {ts : List TypeId} {ds : List (DataW H)} {j0 : Nat} (hval : Value.okWide Tryz.prog W .any b0 22 v)
    (hsz : (DataW.weightsEach Tryz.prog ts ds).all (· ≤ reachBytes) = true) (hts : ts[j0]? = some 22) (hds : ds[j0]? = some d) (h : DataW.Trod enc Tryz.prog W 0 (fun _ => true) true 22 v d ps) :
    ∃ (A : Option Addr) (c : Nat) (P : List Pc), v = .slice A P.length c ∧ P.length ≤ c ∧ PiecesAt W A P ∧ (∀ p ∈ P, p.ok) := by
  obtain ⟨a0, len, cap, rfl⟩ := okWide_slice Tryz.underlying22 hval
  obtain ⟨fuel, hf⟩ := h
  have hf' : DataW.trod enc Tryz.prog W 0 (fun _ => true) true fuel 22 [.slice a0 len cap] = some (d, ps) := hf
  rcases open_slice Tryz.underlying22 hf' with ⟨hcs, _⟩ | ⟨a, len', cap', m, n, D, Pl, hcs, _, hl, hm, hmm, hxx, hx⟩
  · injection hcs with h1 _
    injection h1 with h1 h2 h3
    subst h1 h2 h3
    exact ⟨none, 0, [], rfl, Nat.le_refl _, fun j p hp => by simp at hp, fun t ht => absurd ht List.not_mem_nil⟩
  · injection hcs with h1 _
    injection h1 with h1 h2 h3
    subst h1 h2 h3
    simp only [if_true] at hmm
    have hd1 := (Prod.mk.inj hxx).1
    have hwt : ∀ i, i < len → ∀ k ∈ DataW.weights Tryz.prog 46 (D i), k ≤ reachBytes := by
      intro i hi k hk
      have hmem : k ∈ DataW.weightsEach Tryz.prog ts ds := by
        refine DataW.weights_mem_each hts hds _ ?_
        rw [hd1]
        simp only [DataW.weights, Tryz.underlying22, List.mem_cons, List.mem_append]
        right; left
        exact weightsAll_mem hk (List.mem_map.2 ⟨i, List.mem_range.2 hi, rfl⟩)
      have := List.all_eq_true.1 hsz _ hmem
      simpa using this
    obtain ⟨f0, f1, f2, f3, hu, ⟨t0, o0⟩, ⟨t1, o1⟩, ⟨t2, o2⟩, t3, o3⟩ := fields46
    have each : ∀ i, i < len → ∃ p : Pc, p.ok ∧ ∃ A' c', W.cell? (a.add (i * 4)) = some (.int .u8 p.kd) ∧ W.cell? ⟨(a.add (i * 4)).block, (a.add (i * 4)).off + 1, none⟩ = some (.int .u8 p.n) ∧
        W.cell? ⟨(a.add (i * 4)).block, (a.add (i * 4)).off + 2, none⟩ = some (.int .u8 p.gp) ∧ W.cell? ⟨(a.add (i * 4)).block, (a.add (i * 4)).off + 3, none⟩ = some (.slice A' p.B.length c') ∧ Kd.C (Kd.int .u8) W A' p.B.length p.B ∧ p.B.length ≤ c' ∧ (A' = none → c' = 0) := by
      intro i hi
      obtain ⟨cs, hc, ht⟩ := hx i (by omega)
      rw [cells46] at hc
      obtain ⟨_, hlen, hcell⟩ := World.cells?_some hc
      obtain ⟨y0, y1, y2, y3, q, hD, _, g0, g1, g2, g3⟩ := trod_struct4 hu ht
      have hDi := (Prod.mk.inj hD).1
      match cs, hlen with
      | [u0, u1, u2, u3], _ =>
        rw [t0, o0, cells5] at g0
        rw [t1, o1, cells5] at g1
        rw [t2, o2, cells5] at g2
        rw [t3, o3, cells42] at g3
        obtain ⟨z0, e0, _, hz0⟩ := DataW.trod_int Tryz.underlying5 g0
        obtain ⟨z1, e1, _, hz1⟩ := DataW.trod_int Tryz.underlying5 g1
        obtain ⟨z2, e2, _, hz2⟩ := DataW.trod_int Tryz.underlying5 g2
        simp only [List.drop_zero, List.take_succ_cons, List.take_zero, List.drop_succ_cons, List.cons.injEq, and_true] at e0 e1 e2 g3
        subst e0 e1 e2
        obtain ⟨A', c', B, rfl, hBc, hC, hBr, hA, hBl⟩ := open_inner g3 (fun k hk => hwt i hi k (by
          rw [hDi]
          simp only [DataW.weights, hu]
          refine DataW.weights_mem_each (j := 3) (t := 42) (d := y3.1) ?_ rfl k hk
          show some f3.type = some 42
          rw [t3]))
        exact ⟨⟨z0, z1, z2, B⟩, ⟨byte_of hz0, byte_of hz1, byte_of hz2, hBr, hBl⟩, A', c', hcell 0 (by omega), hcell 1 (by omega), hcell 2 (by omega), hcell 3 (by omega), hC, hBc, hA⟩
    obtain ⟨T, hT⟩ := choose_lt each
    refine ⟨some a, cap, (List.range len).map T, ?_, by rw [List.length_map, List.length_range]; exact hl, ?_, ?_⟩
    · rw [List.length_map, List.length_range]
    · intro j p hp
      rw [List.getElem?_map] at hp
      obtain ⟨j', hj', rfl⟩ := Option.map_eq_some_iff.1 hp
      have hlt := (List.getElem?_eq_some_iff.1 hj').1
      rw [List.length_range] at hlt
      rw [List.getElem?_range hlt] at hj'
      obtain rfl := Option.some.inj hj'
      obtain ⟨_, A', c', h⟩ := hT j hlt
      exact ⟨a, A', c', rfl, h⟩
    · intro t ht
      obtain ⟨j, hj, rfl⟩ := List.mem_map.1 ht
      exact (hT j (List.mem_range.1 hj)).1
end
/-- A row's claim out of a contract, where the world's shape and the weights are wanted. -/
theorem handed_sized_of {H : Type} {enc : TypeId × Value → H} {a : Assume} {C : Checked} {os : Os} {f : FuncId} {fn : Func} {s : ChangeSpec} {apart fresh handsOn again : Bool} {X : World → Prop}
    (hX : ∀ w w' : World, w.heap = w'.heap → X w → X w') (own : ownKnob C.prog.godebug = none) (started : os.Started) (noInit : C.prog.inits.idxOf? f = none) (hfn : C.prog.funcs[f]? = some fn)
    (witness : ∃ (w : World) (tape : Tape) (i : Input), w.os = os ∧ (w.forCall tape i).Shaped C.prog ∧ i.vars = [] ∧ Input.okWide C.prog (w.forCall tape i) .any w.heap.size f i ∧
      ((s.pre enc C.prog fn [] apart (w.forCall tape i).memory i.args ∧ X (w.forCall tape i).memory) ∧ sizedMet enc C.prog fn (OpenSpec.ofChange s) apart (w.forCall tape i).memory i.args) ∧ a.holds C.prog (lone (Frame.enter C.prog f i.args .normal) [] (w.forCall tape i)))
    (contract : ∀ (W : World) (base : Nat) (args : Array Value) (ds gs : List (DataW H)) (before : List MemPlace), W.ShapedOpen C.prog → X W →
      (∀ (j : Nat) t v, fn.params[j]? = some t → args[j]? = some v → Value.okWide C.prog W .any base t v) → (DataW.weightsEach C.prog (fn.params.toList ++ s.plain.varTypes C.prog) (ds ++ gs)).all (· ≤ reachBytes) = true → DataW.Whole enc C.prog fn.params.toList s.vars apart W args.toList ds gs before →
      Calls C.prog f args W fun e W' => ∃ v, e = .returned v ∧ s.post enc C.prog fn apart fresh handsOn again W args v W') :
    ReturnsInHanded a C os f .any (fun w args => (s.pre enc C.prog fn [] apart w args ∧ X w) ∧ sizedMet enc C.prog fn (OpenSpec.ofChange s) apart w args) (s.post enc C.prog fn apart fresh handsOn again) := by
  refine returnsInHanded_of_calls own started noInit witness fun w tape i _ hshape _ hok hpre _ => ?_
  obtain ⟨_, _, _, g, hg, _, _, _, _, hval⟩ := hok
  cases Option.some.inj (hg.symm.trans hfn)
  obtain ⟨⟨⟨ds, gs, before, hw, _⟩, hx⟩, hsz⟩ := hpre
  have hwt := sizedMet.weights hsz hw
  have key := contract (w.forCall tape i) w.heap.size i.args ds gs before hshape (hX (w.forCall tape i).memory (w.forCall tape i) (by rfl) hx) hval hwt (DataW.Whole.of_heap (w' := w.forCall tape i) (by rfl) hw)
  exact key.mono fun e W' h => by
    obtain ⟨v, rfl, hp⟩ := h
    exact ChangeSpec.post_blind hp
theorem maxLen_of {W : World} (h : W.ShapedOpen Tryz.prog) : ∃ m, W.cell? ⟨0, 0, none⟩ = some (.int .i64 m) :=
  cell_of_shapedOpen_int (g := 0) (t := 3) (zero := #[.int .i64 0]) h (of_decide_eq_true (by kernel_rfl)) (by kernel_rfl) rfl (by kernel_rfl) (by kernel_rfl) Tryz.underlying3
end Go.Proofs.YtlpoglkddknedaaGreatDoor.O

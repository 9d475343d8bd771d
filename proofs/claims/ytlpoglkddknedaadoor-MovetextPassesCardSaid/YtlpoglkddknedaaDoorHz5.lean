/- An argument opened: things that are passed over (two bytes each). No program's walk in sight. -/
import Derived.Test.YtlpoglkddknedaaDoorHz3
namespace Go.Proofs.YtlpoglkddknedaaDoor.H
open Go.RowKit Go.Deep Go.Proofs.YtlpoglkddknedaaDoor.T Go.ChangeShapes Go.WideShapes Go.ChangeAt Go.Proofs.YtlpoglkddknedaaDoorW.PrintWords Go.Proofs.YtlpoglkddknedaaDoorW.PrintLast
set_option linter.unusedVariables false
set_option linter.unusedSimpArgs false
theorem cells5 : Tryd.prog.cellsOf 5 = 1 := by kernel_rfl
theorem cells68 : Tryd.prog.cellsOf 68 = 2 := by kernel_rfl
theorem numF_itoa : ∀ d : Fin 256, numF ⟨(Lib.itoa (d.val : Int)).toArray⟩ = true := by decide +kernel
theorem fields68 : ∃ f0 f1 : Field, Tryd.prog.underlying 68 = some (.struct #[f0, f1]) ∧ f0.type = 5 ∧ f0.offset = 0 ∧ f1.type = 5 ∧ f1.offset = 1 := ⟨_, _, Tryd.underlying68, rfl, rfl, rfl, rfl⟩
section
variable {H : Type} {enc : TypeId × Value → H} {W : World} {b0 : Nat}
theorem byte_of {z : Int} (h : (Lit.int .u8 z).wf = true) : 0 ≤ z ∧ z ≤ 255 := by
  have hy : (decide (IntKind.min .u8 ≤ z) && decide (z ≤ IntKind.max .u8)) = true := h
  rw [Bool.and_eq_true] at hy
  have h1 : (0 : Int) ≤ z := of_decide_eq_true hy.1
  have h2 : z ≤ (255 : Int) := of_decide_eq_true hy.2
  exact ⟨h1, h2⟩
set_option maxRecDepth 100000 in
theorem open_noise {v : Value} {d : DataW H} {ps : List MemPlace} (hval : Value.okWide Tryd.prog W .any b0 65 v) (h : DataW.Trod enc Tryd.prog W 0 (fun _ => true) true 65 v d ps) :
    ∃ (A : Option Addr) (c : Nat) (N : List (Int × Int)), v = .slice A N.length c ∧ N.length ≤ c ∧ (∀ (j : Nat) p, N[j]? = some p → ∃ ad, A = some ad ∧ W.cell? (ad.add (j * 2)) = some (.int .u8 p.1) ∧ W.cell? (ad.add (j * 2 + 1)) = some (.int .u8 p.2)) ∧ (∀ p ∈ N, (0 ≤ p.1 ∧ p.1 ≤ 255) ∧ 0 ≤ p.2 ∧ p.2 ≤ 255) := by
  obtain ⟨a0, len, cap, rfl⟩ := okWide_slice Tryd.underlying65 hval
  obtain ⟨fuel, hf⟩ := h
  have hf' : DataW.trod enc Tryd.prog W 0 (fun _ => true) true fuel 65 [.slice a0 len cap] = some (d, ps) := hf
  rcases open_slice Tryd.underlying65 hf' with ⟨hcs, _⟩ | ⟨a, len', cap', m, n, D, Pl, hcs, _, hl, hm, hmm, _, hx⟩
  · injection hcs with h1 _
    injection h1 with h1 h2 h3
    subst h1 h2 h3
    exact ⟨none, 0, [], rfl, Nat.le_refl _, fun j p hp => by simp at hp, fun t ht => absurd ht List.not_mem_nil⟩
  · injection hcs with h1 _
    injection h1 with h1 h2 h3
    subst h1 h2 h3
    simp only [if_true] at hmm
    obtain ⟨f0, f1, hu, t0, o0, t1, o1⟩ := fields68
    have each : ∀ i, i < len → ∃ t : Int × Int, ((0 ≤ t.1 ∧ t.1 ≤ 255) ∧ 0 ≤ t.2 ∧ t.2 ≤ 255) ∧ ∀ j u, ([Value.int .u8 t.1, .int .u8 t.2])[j]? = some u → W.cell? (a.add (i * 2 + j)) = some u := by
      intro i hi
      obtain ⟨cs, hc, ht⟩ := hx i (by omega)
      rw [cells68] at hc
      obtain ⟨_, hlen, hcell⟩ := World.cells?_some hc
      obtain ⟨y0, y1, q, _, _, g0, g1⟩ := trod_struct2 hu ht
      match cs, hlen with
      | [u0, u1], _ =>
        rw [t0, o0, cells5] at g0
        rw [t1, o1, cells5] at g1
        obtain ⟨z0, e0, _, hz0⟩ := DataW.trod_int Tryd.underlying5 g0
        obtain ⟨z1, e1, _, hz1⟩ := DataW.trod_int Tryd.underlying5 g1
        simp only [List.drop_zero, List.take_succ_cons, List.take_zero, List.drop_succ_cons, List.cons.injEq, and_true] at e0 e1
        subst e0 e1
        refine ⟨(z0, z1), ⟨byte_of hz0, byte_of hz1⟩, fun j u hj => ?_⟩
        have hjl : j < 2 := by have := (List.getElem?_eq_some_iff.1 hj).1; simpa using this
        have h5 := hcell j hjl
        have h6 : (a.add (i * 2)).add j = a.add (i * 2 + j) := Addr.add_add a (i * 2) j
        rw [← h6, h5]
        exact hj
    obtain ⟨T, hT⟩ := choose_lt each
    refine ⟨some a, cap, (List.range len).map T, ?_, by rw [List.length_map, List.length_range]; exact hl, ?_, ?_⟩
    · rw [List.length_map, List.length_range]
    · intro j p hp
      rw [List.getElem?_map] at hp
      obtain ⟨j', hj', rfl⟩ := Option.map_eq_some_iff.1 hp
      have hlt := (List.getElem?_eq_some_iff.1 hj').1
      rw [List.length_range] at hlt
      rw [List.getElem?_range hlt] at hj'
      obtain rfl := Option.some.inj hj'
      exact ⟨a, rfl, (hT j hlt).2 0 _ rfl, (hT j hlt).2 1 _ rfl⟩
    · intro t ht
      obtain ⟨j, hj, rfl⟩ := List.mem_map.1 ht
      exact (hT j (List.mem_range.1 hj)).1
end
end Go.Proofs.YtlpoglkddknedaaDoor.H

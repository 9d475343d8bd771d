/- What the row's conditions give the walks: the variables, tokens and strings that came in. No condition of its own. -/
import Derived.Test.YtlpoglkddknedaaDoorHg
import Derived.Test.YtlpoglkddknedaaDoorRows
import Derived.Deep.Strs
import Derived.Stop.LaidErr
import Derived.MakeChecks
import Derived.LaidMore
import Derived.ProofKit
import Derived.OpenShut
namespace Go.Proofs.YtlpoglkddknedaaDoor.H
open Go.RowKit Go.Deep Go.ChangeShapes Go.WideShapes Go.Proofs.YtlpoglkddknedaaDoor.T Go.Proofs.YtlpoglkddknedaaDoorW.PrintWords Go.Proofs.YtlpoglkddknedaaDoorW.PrintLast
set_option linter.unusedVariables false
set_option linter.unusedSimpArgs false

theorem laidOut : laidOutB Tryd.prog = true := by kernel_rfl
theorem cells9 : Tryd.prog.cellsOf 9 = 1 := by kernel_rfl
theorem cells3 : Tryd.prog.cellsOf 3 = 1 := by kernel_rfl
theorem cells46 : Tryd.prog.cellsOf 46 = 3 := by kernel_rfl
theorem fields46 : ∃ f0 f1 f2 : Field, Tryd.prog.underlying 46 = some (.struct #[f0, f1, f2]) ∧ f0.type = 3 ∧ f0.offset = 0 ∧ f1.type = 9 ∧ f1.offset = 1 ∧ f2.type = 3 ∧ f2.offset = 2 := by
  exact ⟨_, _, _, Tryd.underlying46, rfl, rfl, rfl, rfl, rfl, rfl⟩

instance : Inhabited S46 := ⟨z46⟩
section
variable {H : Type} {enc : TypeId × Value → H} {W : World} {b0 : Nat}
set_option maxRecDepth 100000 in
theorem open_toks {v : Value} {d : DataW H} {ps : List MemPlace} (hval : Value.okWide Tryd.prog W .any b0 23 v) (h : DataW.Trod enc Tryd.prog W 0 (fun _ => true) true 23 v d ps) :
    ∃ (A : Option Addr) (c : Nat) (l : List S46), v = .slice A l.length c ∧ l.length ≤ c ∧ Kd.C k46 W A l.length l ∧ (∀ t ∈ l, t.f1.size ≤ 9223372036854775807) := by
  obtain ⟨a0, len, cap, rfl⟩ := okWide_slice Tryd.underlying23 hval
  obtain ⟨fuel, hf⟩ := h
  have hf' : DataW.trod enc Tryd.prog W 0 (fun _ => true) true fuel 23 [.slice a0 len cap] = some (d, ps) := hf
  rcases open_slice Tryd.underlying23 hf' with ⟨hcs, _⟩ | ⟨a, len', cap', m, n, D, Pl, hcs, _, hl, hm, hmm, _, hx⟩
  · injection hcs with h1 _
    injection h1 with h1 h2 h3
    subst h1 h2 h3
    exact ⟨none, 0, [], rfl, Nat.le_refl _, ⟨rfl, Nat.zero_le _, fun h => absurd h (Nat.lt_irrefl 0)⟩, fun t ht => absurd ht List.not_mem_nil⟩
  · injection hcs with h1 _
    injection h1 with h1 h2 h3
    subst h1 h2 h3
    simp only [if_true] at hmm
    obtain ⟨f0, f1, f2, hu, t0, o0, t1, o1, t2, o2⟩ := fields46
    have each : ∀ i, i < len → ∃ t : S46, t.f1.size ≤ maxLen ∧ ∀ j u, ([Value.int .i64 t.f0, .string t.f1, .int .i64 t.f2])[j]? = some u → W.cell? (a.add (i * 3 + j)) = some u := by
      intro i hi
      obtain ⟨cs, hc, ht⟩ := hx i (by omega)
      rw [cells46] at hc
      obtain ⟨_, hlen, hcell⟩ := World.cells?_some hc
      obtain ⟨y0, y1, y2, q, _, _, g0, g1, g2⟩ := trod_struct3 hu ht
      match cs, hlen with
      | [u0, u1, u2], _ =>
        rw [t0, o0, cells3] at g0
        rw [t1, o1, cells9] at g1
        rw [t2, o2, cells3] at g2
        obtain ⟨z0, e0, _, _⟩ := DataW.trod_int Tryd.underlying3 g0
        obtain ⟨z1, e1, _, hz1⟩ := DataW.trod_string Tryd.underlying9 g1
        obtain ⟨z2, e2, _, _⟩ := DataW.trod_int Tryd.underlying3 g2
        simp only [List.drop_zero, List.take_succ_cons, List.take_zero, List.drop_succ_cons, List.cons.injEq, and_true] at e0 e1 e2
        subst e0 e1 e2
        refine ⟨⟨z0, z1, z2⟩, hz1, fun j u hj => ?_⟩
        have hjl : j < 3 := by have := (List.getElem?_eq_some_iff.1 hj).1; simpa using this
        have h5 := hcell j hjl
        have h6 : (a.add (i * 3)).add j = a.add (i * 3 + j) := by
          unfold Addr.add
          repeat' split
          all_goals simp_all
          all_goals omega
        rw [← h6, h5]
        exact hj
    obtain ⟨T, hT⟩ := choose_lt each
    refine ⟨some a, cap, (List.range len).map T, ?_, by rw [List.length_map, List.length_range]; exact hl, ?_, ?_⟩
    · rw [List.length_map, List.length_range]
    · refine ⟨rfl, by rw [List.length_map, List.length_range]; unfold maxLen at hm; omega, fun _ => ⟨a, rfl, fun j p hp => ?_⟩⟩
      rw [List.getElem?_map] at hp
      obtain ⟨j', hj', rfl⟩ := Option.map_eq_some_iff.1 hp
      have hlt := (List.getElem?_eq_some_iff.1 hj').1
      rw [List.length_range] at hlt
      rw [List.getElem?_range hlt] at hj'
      obtain rfl := Option.some.inj hj'
      exact ⟨_, rfl, k46_mk W _, fun i u hu => (hT j hlt).2 i u hu⟩
    · intro t ht
      obtain ⟨j, hj, rfl⟩ := List.mem_map.1 ht
      have := (hT j (List.mem_range.1 hj)).1
      unfold maxLen at this
      omega

set_option maxRecDepth 100000 in
theorem open_words {v : Value} {d : DataW H} {ps : List MemPlace} (hval : Value.okWide Tryd.prog W .any b0 25 v) (h : DataW.Trod enc Tryd.prog W 0 (fun _ => true) true 25 v d ps) :
    ∃ (A : Option Addr) (c : Nat) (l : List ByteArray), v = .slice A l.length c ∧ l.length ≤ c ∧ Kd.C Kd.string W A l.length l ∧ (∀ t ∈ l, t.size ≤ 9223372036854775807) := by
  obtain ⟨a0, len, cap, rfl⟩ := okWide_slice Tryd.underlying25 hval
  obtain ⟨fuel, hf⟩ := h
  have hf' : DataW.trod enc Tryd.prog W 0 (fun _ => true) true fuel 25 [.slice a0 len cap] = some (d, ps) := hf
  rcases open_strs Tryd.underlying25 Tryd.underlying9 cells9 hf' with ⟨hcs, _⟩ | ⟨a, len', cap', m, Sx, hcs, _, hl, hm, hmm, _, hcell⟩
  · injection hcs with h1 _
    injection h1 with h1 h2 h3
    subst h1 h2 h3
    exact ⟨none, 0, [], rfl, Nat.le_refl _, ⟨rfl, Nat.zero_le _, fun h => absurd h (Nat.lt_irrefl 0)⟩, fun t ht => absurd ht List.not_mem_nil⟩
  · injection hcs with h1 _
    injection h1 with h1 h2 h3
    subst h1 h2 h3
    simp only [if_true] at hmm
    refine ⟨some a, cap, (List.range len).map Sx, ?_, by rw [List.length_map, List.length_range]; exact hl, ?_, ?_⟩
    · rw [List.length_map, List.length_range]
    · refine ⟨rfl, by rw [List.length_map, List.length_range]; unfold maxLen at hm; omega, fun _ => ⟨a, rfl, fun j p hp => ?_⟩⟩
      rw [List.getElem?_map] at hp
      obtain ⟨j', hj', rfl⟩ := Option.map_eq_some_iff.1 hp
      have hlt := (List.getElem?_eq_some_iff.1 hj').1
      rw [List.length_range] at hlt
      rw [List.getElem?_range hlt] at hj'
      obtain rfl := Option.some.inj hj'
      refine ⟨[.string (Sx j)], rfl, rfl, fun i u hu => ?_⟩
      match i, hu with
      | 0, hu =>
        obtain rfl := Option.some.inj hu
        show W.cell? (a.add (j * 1 + 0)) = _
        rw [Nat.mul_one, Nat.add_zero]
        exact (hcell j (by omega)).1
    · intro t ht
      obtain ⟨j, hj, rfl⟩ := List.mem_map.1 ht
      have := (hcell j (by have := List.mem_range.1 hj; omega)).2
      unfold maxLen at this
      omega
end

set_option maxRecDepth 100000 in
theorem laid_of {W : World} (h : laidMetH Tryd.prog Rows.movetextReadsRow.laid W) : Laid W := by
  rw [MakeChecks.laidMetH_plain _ _ _ (by kernel_rfl)] at h
  have h3 := laidMet.tail (laidMet.tail h)
  have h5 := laidMet.tail (laidMet.tail h3)
  constructor
  · obtain ⟨ps, ⟨g, t, cs, fuel, p, q, hg, ht, hv, hd, _, _⟩, _, _⟩ := h5
    obtain rfl := Option.some.inj (g_res.symm.trans hg)
    obtain rfl := Option.some.inj ((show (Tryd.prog.globals[0]?).map (·.type) = some 109 by kernel_rfl).symm.trans ht)
    obtain ⟨xs, m, _, ex, hlc, hl, hel⟩ := DataW.trod_array Tryd.underlying109 hd
    have ct : Tryd.prog.cellsOf 109 = 4 := by kernel_rfl
    rw [ct] at hlc
    have each : ∀ i, i < 4 → ∃ s : ByteArray, (cs.toList.drop i).take 1 = [.string s] ∧ xs[i]? = some (.lit (.string s.data.toList), []) := by
      intro i hi
      have h1 := hel i hi
      rw [cells9, Nat.mul_one, List.getElem?_eq_getElem (by omega)] at h1
      obtain ⟨s, e1, e2, _⟩ := DataW.trod_string Tryd.underlying9 h1
      exact ⟨s, e1, by rw [List.getElem?_eq_getElem (by omega), e2]⟩
    obtain ⟨s0, a0, b0⟩ := each 0 (by decide)
    obtain ⟨s1, a1, b1⟩ := each 1 (by decide)
    obtain ⟨s2, a2, b2⟩ := each 2 (by decide)
    obtain ⟨s3, a3, b3⟩ := each 3 (by decide)
    have em : xs.map (·.1) = [.lit (.string [42]), .lit (.string [49, 45, 48]), .lit (.string [48, 45, 49]), .lit (.string [49, 47, 50, 45, 49, 47, 50])] := (DataW.agg.inj (Prod.mk.inj ex).1).symm
    have lit : ∀ (i : Nat) (s : ByteArray), xs[i]? = some (.lit (.string s.data.toList), []) → (xs.map (·.1))[i]? = some (.lit (.string s.data.toList)) := fun i s h => by rw [List.getElem?_map, h]; rfl
    have g0 := lit 0 s0 b0
    have g1 := lit 1 s1 b1
    have g2 := lit 2 s2 b2
    have g3 := lit 3 s3 b3
    rw [em] at g0 g1 g2 g3
    have d0 : s0.data.toList = [42] := by have h := DataW.lit.inj (Option.some.inj g0); injection h with h; exact h.symm
    have d1 : s1.data.toList = [49, 45, 48] := by have h := DataW.lit.inj (Option.some.inj g1); injection h with h; exact h.symm
    have d2 : s2.data.toList = [48, 45, 49] := by have h := DataW.lit.inj (Option.some.inj g2); injection h with h; exact h.symm
    have d3 : s3.data.toList = [49, 47, 50, 45, 49, 47, 50] := by have h := DataW.lit.inj (Option.some.inj g3); injection h with h; exact h.symm
    have mk : ∀ (s : ByteArray) (l : List UInt8), s.data.toList = l → s = ⟨l.toArray⟩ := fun s l h => by cases s with | mk d => congr 1; rw [← h]
    obtain rfl := mk _ _ d0
    obtain rfl := mk _ _ d1
    obtain rfl := mk _ _ d2
    obtain rfl := mk _ _ d3
    rw [hv]
    congr 1
    rw [← Array.toArray_toList (xs := cs)]
    match hcs : cs.toList, hlc, a0, a1, a2, a3 with
    | [u0, u1, u2, u3], _, a0, a1, a2, a3 =>
      simp only [List.drop_zero, List.take_succ_cons, List.take_zero, List.drop_succ_cons, List.cons.injEq, and_true] at a0 a1 a2 a3
      subst a0 a1 a2 a3
      rfl
  · exact Lib.tabIs_of_head g_pow (by kernel_rfl) Tryd.underlying169 Tryd.underlying125 (by kernel_rfl) (by kernel_rfl) h3
end Go.Proofs.YtlpoglkddknedaaDoor.H

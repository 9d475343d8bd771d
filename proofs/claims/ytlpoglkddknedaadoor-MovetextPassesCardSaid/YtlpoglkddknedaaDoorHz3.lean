/- Arguments opened: bytes, and one token. No program's walk in sight. -/
import Derived.Test.YtlpoglkddknedaaDoorHz
namespace Go.Proofs.YtlpoglkddknedaaDoor.H
open Go.RowKit Go.Deep Go.Proofs.YtlpoglkddknedaaDoor.T Go.ChangeShapes Go.WideShapes Go.ChangeAt Go.Proofs.YtlpoglkddknedaaDoorW.PrintWords Go.Proofs.YtlpoglkddknedaaDoorW.PrintLast
set_option linter.unusedVariables false
set_option linter.unusedSimpArgs false
section
variable {H : Type} {enc : TypeId × Value → H} {W : World} {b0 : Nat}
set_option maxRecDepth 100000 in
theorem open_tok {v : Value} {d : DataW H} {ps : List MemPlace} (hval : Value.okWide Tryd.prog W .any b0 46 v) (h : DataW.Trod enc Tryd.prog W 0 (fun _ => true) true 46 v d ps) :
    ∃ t : S46, v = .agg #[.int .i64 t.f0, .string t.f1, .int .i64 t.f2] := by
  obtain ⟨f0, f1, f2, hu, t0, o0, t1, o1, t2, o2⟩ := fields46
  unfold Value.okWide at hval
  rw [hu] at hval
  obtain ⟨cs, rfl, hs, _⟩ := hval
  obtain ⟨fuel, hf⟩ := h
  have hf' : DataW.trod enc Tryd.prog W 0 (fun _ => true) true fuel 46 cs.toList = some (d, ps) := hf
  obtain ⟨y0, y1, y2, q, _, hlen, g0, g1, g2⟩ := trod_struct3 hu hf'
  rw [cells46] at hlen
  obtain ⟨l, hl⟩ : ∃ l, cs.toList = l := ⟨_, rfl⟩
  rw [hl] at hlen g0 g1 g2
  have hcs : cs = l.toArray := by rw [← hl]
  match l, hlen with
  | [u0, u1, u2], _ =>
    rw [t0, o0, cells3] at g0
    rw [t1, o1, cells9] at g1
    rw [t2, o2, cells3] at g2
    obtain ⟨z0, e0, _, _⟩ := DataW.trod_int Tryd.underlying3 g0
    obtain ⟨z1, e1, _, hz1⟩ := DataW.trod_string Tryd.underlying9 g1
    obtain ⟨z2, e2, _, _⟩ := DataW.trod_int Tryd.underlying3 g2
    simp only [List.drop_zero, List.take_succ_cons, List.take_zero, List.drop_succ_cons, List.cons.injEq, and_true] at e0 e1 e2
    subst e0 e1 e2
    exact ⟨⟨z0, z1, z2⟩, by rw [hcs]⟩
set_option maxRecDepth 100000 in
theorem open_bytes {v : Value} {d : DataW H} {ps : List MemPlace} (hval : Value.okWide Tryd.prog W .any b0 64 v) (h : DataW.Trod enc Tryd.prog W 0 (fun _ => true) true 64 v d ps) :
    ∃ (A : Option Addr) (c : Nat) (l : List Int), v = .slice A l.length c ∧ l.length ≤ c ∧ Kd.C (Kd.int .u8) W A l.length l ∧ (∀ x ∈ l, 0 ≤ x ∧ x ≤ 255) := by
  obtain ⟨a0, len, cap, rfl⟩ := okWide_slice Tryd.underlying64 hval
  obtain ⟨fuel, hf⟩ := h
  have hf' : DataW.trod enc Tryd.prog W 0 (fun _ => true) true fuel 64 [.slice a0 len cap] = some (d, ps) := hf
  rcases open_ints Tryd.underlying64 Tryd.underlying5 (by kernel_rfl) hf' with ⟨hcs, _⟩ | ⟨a, len', cap', zs, hcs, _, hl, hm, hz, _, hcell, hwz⟩
  · injection hcs with h1 _
    injection h1 with h1 h2 h3
    subst h1 h2 h3
    exact ⟨none, 0, [], rfl, Nat.le_refl _, ⟨rfl, Nat.zero_le _, fun h => absurd h (Nat.lt_irrefl 0)⟩, fun t ht => absurd ht List.not_mem_nil⟩
  · injection hcs with h1 _
    injection h1 with h1 h2 h3
    subst h1 h2 h3
    simp only [if_true] at hz
    have hlen : (zs.take len).length = len := by rw [List.length_take]; omega
    refine ⟨some a, cap, zs.take len, by rw [hlen], by rw [hlen]; exact hl, ⟨rfl, by rw [hlen]; unfold maxLen at hm; omega, fun _ => ⟨a, rfl, fun j p hp => ?_⟩⟩, fun x hx => ?_⟩
    · have hj : j < len := by have := (List.getElem?_eq_some_iff.1 hp).1; omega
      rw [List.getElem?_take, if_pos hj] at hp
      refine ⟨[.int .u8 p], rfl, rfl, fun i u hu => ?_⟩
      match i, hu with
      | 0, hu =>
        obtain rfl := Option.some.inj hu
        show W.cell? (a.add (j * 1 + 0)) = _
        rw [Nat.mul_one, Nat.add_zero, hcell j (by omega), List.getD_eq_getElem?_getD, hp]
        rfl
    · have hy : (decide (IntKind.min .u8 ≤ x) && decide (x ≤ IntKind.max .u8)) = true := hwz x (List.mem_of_mem_take hx)
      rw [Bool.and_eq_true] at hy
      have h1 : (0 : Int) ≤ x := of_decide_eq_true hy.1
      have h2 : x ≤ (255 : Int) := of_decide_eq_true hy.2
      exact ⟨h1, h2⟩
end
end Go.Proofs.YtlpoglkddknedaaDoor.H

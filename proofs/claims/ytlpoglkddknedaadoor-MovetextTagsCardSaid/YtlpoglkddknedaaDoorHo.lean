/- Two tokens appended to a slice that the call has made: the new slice, and the old one as before. -/
import Derived.Test.YtlpoglkddknedaaDoorHv
import Derived.ArgAppend
import Derived.Deep.DeepAppendRoom
namespace Go.Proofs.YtlpoglkddknedaaDoor.G
open Go.RowKit Go.Proofs.YtlpoglkddknedaaDoor.T Go.Proofs.YtlpoglkddknedaaDoor.H Go.Proofs.YtlpoglkddknedaaDoorW.PrintWords Go.Proofs.YtlpoglkddknedaaDoorW.PrintLast
set_option linter.unusedVariables false
set_option linter.unusedSimpArgs false
theorem two_cells (W : World) (p q : S46) (j : Nat) (u : Value) (hj : (flatT [p, q])[j]? = some u) : (W.alloc (.cells (flatT [p, q]).toArray 46)).cell? ((⟨W.heap.size, 0, none⟩ : Addr).add j) = some u := by
  rw [Addr.add_lit, Nat.zero_add, World.cell?_alloc_new]
  simpa using hj
theorem gi46b : (Tryd.prog.info? 46).map (fun i => (i.zero, i.size, i.bytes)) = some (some (.agg #[(.int .i64 0), (.string ⟨#[]⟩), (.int .i64 0)]), 3, 32) := by kernel_rfl
theorem append_two {ops : Array Oper} {rest : List Oper} {o : Oper} {a : Act} {Q : Exit → Act → World → Prop} (hgd : o.guard = none) (s x : Operand)
    (ho : o.op = .call { callee := .builtin .append, args := #[s, x], argTypes := #[23, 23] }) (base : Nat) (ok : Nat → Prop) (v : Value) (toks : List S46) (p q : S46) (W : World)
    (hs : a.eval s = v) (hx : a.eval x = .slice (some ⟨W.heap.size, 0, none⟩) 2 2) (HO : Kd.R k46 46 W base ok v toks) (hl : toks.length ≤ 1000)
    (hK : ∀ (A1 : Option Addr) (c1 : Nat) (w1 : World) (Av : Option Addr) (c : Nat), v = .slice Av toks.length c → toks.length ≤ c → Kd.C k46 w1 A1 (toks ++ [p, q]).length (toks ++ [p, q]) → (toks ++ [p, q]).length ≤ c1 → Kd.C k46 w1 Av toks.length toks → (W.alloc (.cells (flatT [p, q]).toArray 46)).grownBy w1 v.ownBlock →
      wpList Tryd.prog ops Q rest (a.put o.dst (.slice A1 (toks ++ [p, q]).length c1)) w1) : wpList Tryd.prog ops Q (o :: rest) a (W.alloc (.cells (flatT [p, q]).toArray 46)) := by
  obtain ⟨i0, hi, hz0, hz1, hz2⟩ := info_parts gi46b
  have HO2 := Kd.R_alloc HO (.cells (flatT [p, q]).toArray 46)
  obtain ⟨Av, c, rfl⟩ := Kd.R_slice HO
  have hrd := Kd.R_reads' HO2
  have hlen : (toks ++ [p, q]).length = toks.length + 2 := by simp
  have hn6 : (flatT [p, q]).length = 2 * 3 := flatT_len _
  by_cases hroom : toks.length + 2 ≤ c
  · obtain ⟨h0, inner, hown, hr⟩ := HO2
    have hown2 := hown
    rcases hown2.2 with ⟨e, _⟩ | ⟨g, cap, cur, e, _, _, _, _⟩
    · injection e with e1 e2 e3
      omega
    · injection e with e1 e2 e3
      subst e1 e3
      refine wpList_append_own_spare _ hgd s x 23 ho base 46 i0 3 Tryd.underlying23 hi hz1 g toks.length c inner hs hown ⟨W.heap.size, 0, none⟩ 2 2 (flatT [p, q]) hx hn6 (two_cells W p q) (flat_one _) hroom ?_
      intro w1 hown1 hg1
      have hR : Kd.R k46 46 w1 base (fun _ => True) (.slice (some ⟨g, 0, none⟩) (toks.length + 2) c) (toks ++ [p, q]) := by
        refine ⟨fun _ _ => trivial, inner ++ flatT [p, q], ?_, ?_⟩
        · rw [hlen]; exact hown1
        · have h1 : Reps (k46.M w1 base (fun k => True ∧ some k ≠ (Value.slice (some ⟨g, 0, none⟩) (toks.length + 2) c).ownBlock)) 3 toks inner := hr.imp_ (fun y z h => by obtain rfl := k46_openM h; exact k46_mkM _ _ _ y)
          have h2 := (h1.snoc (k46_mkM _ _ _ p) rfl).snoc (k46_mkM _ _ _ q) rfl
          have e2 : flatT [p, q] = [.int .i64 p.f0, .string p.f1, .int .i64 p.f2] ++ [.int .i64 q.f0, .string q.f1, .int .i64 q.f2] := by simp [flatT]
          rw [List.append_assoc, List.append_assoc, ← e2] at h2
          exact h2
      rw [← hlen] at hR ⊢
      obtain ⟨r1, r2, r3⟩ := Kd.R_reads' hR
      have r4 := Kd.C_take r3 (m := toks.length) (by omega)
      rw [List.take_left] at r4
      exact hK _ _ _ _ _ rfl hrd.2.1 r3 r2 r4 hg1
  · refine wpList_append_grows _ hgd s x 23 ho 46 i0 _ 3 32 Tryd.underlying23 hi hz0 hz1 hz2 rfl (by decide) Av toks.length c (flatT toks) hs ?_ (flatT_len _) ?_ ⟨W.heap.size, 0, none⟩ 2 2 (flatT [p, q]) hx hn6 (two_cells W p q) (flat_one _) (by omega) (by unfold maxLen; omega) (by omega) ?_
    · rintro rfl
      obtain ⟨h0, inner, hown, hr⟩ := HO2
      rcases hown.2 with ⟨e, _⟩ | ⟨g, cap, cur, e, _, _, _, _⟩
      · injection e with e1 e2 e3
        exact ⟨e2, e3⟩
      · injection e with e1 e2 e3
        cases e1
    · rintro ad rfl j u hj
      refine flatT_cell (l := toks) ?_ j u hj
      intro j p hp
      have hjl : j < toks.length := by
        by_cases h : j < toks.length
        · exact h
        · rw [List.getElem?_eq_none (by omega)] at hp; cases hp
      obtain ⟨ad2, e, hc⟩ := hrd.2.2.2.2 (by omega)
      obtain rfl := Option.some.inj e
      obtain ⟨z, hz1, hz2, hz3⟩ := hc j p hp
      exact ⟨z, hz1, hz2, hz3⟩
    · intro v' w1 hown1 hg1
      have hR : Kd.R k46 46 w1 (W.alloc (.cells (flatT [p, q]).toArray 46)).heap.size (fun _ => True) v' (toks ++ [p, q]) := by
        refine ⟨fun _ _ => trivial, flatT (toks ++ [p, q]), ?_, flatT_reps _ _ _ _⟩
        rw [hlen, flat_app]
        exact hown1
      obtain ⟨A1, c1, rfl⟩ := Kd.R_slice hR
      obtain ⟨r1, r2, r3⟩ := Kd.R_reads' hR
      have hb : Below (W.alloc (.cells (flatT [p, q]).toArray 46)).heap.size (W.alloc (.cells (flatT [p, q]).toArray 46)) w1 := (Below.refl _ _).grown hg1 (Nat.le_refl _) (fun k hk => by simp at hk)
      exact hK _ _ _ _ _ rfl hrd.2.1 r3 r2 (Kd.C_below hrd.2.2 hb) ⟨hg1.os, hg1.tape, hg1.output, hg1.size, fun k hk _ => hg1.block k hk (by simp)⟩
end Go.Proofs.YtlpoglkddknedaaDoor.G

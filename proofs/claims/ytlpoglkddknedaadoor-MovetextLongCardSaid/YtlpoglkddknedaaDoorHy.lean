/- The calls of MovetextLong, each by its contract, and what they answer there. -/
import Derived.Test.YtlpoglkddknedaaDoorHv
import Derived.Test.YtlpoglkddknedaaDoorHp
import Derived.Test.YtlpoglkddknedaaDoorHq
import Derived.Test.YtlpoglkddknedaaDoorHw
import Derived.IntWalk
import Derived.KernelRfl
namespace Go.Proofs.YtlpoglkddknedaaDoor.L
open Go.RowKit Go.Proofs.YtlpoglkddknedaaDoor.T Go.Proofs.YtlpoglkddknedaaDoor.H Go.Proofs.YtlpoglkddknedaaDoorW.PrintWords Go.Proofs.YtlpoglkddknedaaDoorW.PrintLast
set_option linter.unusedVariables false
set_option linter.unusedSimpArgs false
theorem li46 : (Tryd.prog.info? 46).map (fun i => (i.zero, i.size, i.bytes)) = some (some (.agg #[(.int .i64 0), (.string ⟨#[]⟩), (.int .i64 0)]), 3, 32) := by kernel_rfl
def tE4 : S46 := ⟨2, ⟨#[101, 52]⟩, 0⟩
def tSt : S46 := ⟨4, ⟨#[42]⟩, 0⟩
def tNN : S46 := ⟨2, ⟨#[78]⟩, 0⟩
def tK (k : Int) : S46 := ⟨k, ⟨#[]⟩, 0⟩
def tags4 : List S46 := [tK 5, tNN, tK 1, tK 6]
def deepL : List S46 := rep 600 [tK 7, tE4] ++ (rep 600 [tK 8] ++ [tSt])
theorem lit46 (w : World) (l : List S46) (k : Nat) (hk : l.length = k) (hl : k ≤ 1000000) (cs : Array Value) (hcs : cs = (flatT l).toArray) : Kd.C k46 (w.alloc (.cells cs 46)) (some ⟨w.heap.size, 0, none⟩) k l := by
  subst hk
  refine ⟨rfl, by omega, fun _ => ⟨_, rfl, fun j p hj => ⟨[.int .i64 p.f0, .string p.f1, .int .i64 p.f2], rfl, k46_mk _ p, fun i u hu => ?_⟩⟩⟩
  have hi : i < 3 := by have := (List.getElem?_eq_some_iff.1 hu).1; simpa using this
  show (w.alloc (.cells cs 46)).cell? (Addr.add ⟨w.heap.size, 0, none⟩ (j * 3 + i)) = _
  rw [Addr.add_lit, Nat.zero_add, World.cell?_alloc_new, hcs]
  have := flatT_at l j i p hj hi
  simp only [List.getElem?_toArray]
  rw [this]
  exact hu
theorem rep_call (l : List S46) (k : Nat) (hk : l.length = k) (n N : Nat) (hN : n * k = N) (x : Int) (hx : x = (n : Int)) (h1 : 1 ≤ n) (h2 : 0 < k) (h3 : N ≤ 1000000) (h4 : n ≤ 1000000) (h5 : k ≤ 1000000) (w : World) (A : Option Addr) (c : Nat) (hC : Kd.C k46 w A k l) (hc : k ≤ c) :
    Calls Tryd.prog 26 #[.slice A k c, .int .i64 x] w fun e w' => ∃ (A4 : Option Addr) (c4 : Nat), e = .returned (.slice A4 N c4) ∧ Kd.R k46 46 w' w.heap.size (fun _ => True) (.slice A4 N c4) (rep n l) ∧ Below w.heap.size w w' := by
  subst hk hx
  refine (Repeat_calls A c l n w hC hc h2 h1 (by omega) h4 h5).mono ?_
  rintro e w' ⟨v, rfl, hr, hb⟩
  obtain ⟨A4, c4, e4⟩ := Kd.R_slice hr
  rw [rep_len, hN] at e4
  subst e4
  exact ⟨_, _, rfl, hr, hb⟩
theorem parse_call (l : List S46) (m : Nat) (hm : l.length = m) (nb : Nat) (r2 r3 r4 : Int) (h : (parseF l 0).map (fun r => (r.1.length, r.2)) = some (nb, r2, r3, r4)) (w : World) (A : Option Addr) (c : Nat) (hC : Kd.C k46 w A m l) (hc : m ≤ c) (hg : Laid w) :
    Calls Tryd.prog 10 #[.slice A m c, .int .i64 0] w fun e w' => ∃ (A8 : Option Addr) (c8 : Nat), e = .returned (.tuple #[.agg #[.slice A8 nb c8, .int .i64 r2], .int .i64 r3, .int .i64 r4]) ∧ Below w.heap.size w w' := by
  subst hm
  obtain ⟨⟨r1, r2', r3', r4'⟩, h1, h2⟩ := Option.map_eq_some_iff.1 h
  simp only [Prod.mk.injEq] at h2
  obtain ⟨h2, rfl, rfl, rfl⟩ := h2
  refine (Parse_calls A c l 0 r1 r2' r3' r4' w hC hc h1 hg).mono ?_
  rintro e w' ⟨v, rfl, hr, hb⟩
  obtain ⟨A4, c4, rfl⟩ := Kd.R_slice hr
  rw [h2]
  exact ⟨_, _, rfl, hb⟩
theorem tags_call (l : List S46) (m : Nat) (hm : l.length = m) (nb : Nat) (r2 r3 : Int) (h : (tagsF l 0).map (fun r => (r.1.length, r.2)) = some (nb, r2, r3)) (w : World) (A : Option Addr) (c : Nat) (hC : Kd.C k46 w A m l) (hc : m ≤ c) :
    Calls Tryd.prog 11 #[.slice A m c, .int .i64 0] w fun e w' => ∃ (A8 : Option Addr) (c8 : Nat), e = .returned (.tuple #[.slice A8 nb c8, .int .i64 r2, .int .i64 r3]) ∧ Below w.heap.size w w' := by
  subst hm
  obtain ⟨⟨r1, r2', r3'⟩, h1, h2⟩ := Option.map_eq_some_iff.1 h
  simp only [Prod.mk.injEq] at h2
  obtain ⟨h2, rfl, rfl⟩ := h2
  refine (Tags_calls A c l 0 r1 r2' r3' w hC hc h1).mono ?_
  rintro e w' ⟨v, rfl, hr, hb⟩
  obtain ⟨A4, c4, rfl⟩ := Kd.R_slice hr
  rw [h2]
  exact ⟨_, _, rfl, hb⟩
theorem deep_len : deepL.length = 1801 := by
  unfold deepL
  rw [List.length_append, List.length_append, rep_len, rep_len]
  rfl
theorem concat_call (w : World) (A : Option Addr) (hC : Kd.C (Kd.slice 46 k46) w A 3 [rep 600 [tK 7, tE4], rep 600 [tK 8], [tSt]]) :
    Calls Tryd.prog 27 #[.slice A 3 3] w fun e w' => ∃ (A4 : Option Addr) (c4 : Nat), e = .returned (.slice A4 1801 c4) ∧ (Kd.C k46 w' A4 1801 deepL ∧ 1801 ≤ c4) ∧ Below w.heap.size w w' := by
  have hf : ([rep 600 [tK 7, tE4], rep 600 [tK 8], [tSt]] : List (List S46)).flatten = deepL := by simp [deepL]
  refine (Concat_kd A 3 [rep 600 [tK 7, tE4], rep 600 [tK 8], [tSt]] w hC (by decide) (by rw [hf, deep_len]; decide) (by rw [hf, deep_len]; decide)).mono ?_
  rintro e w' ⟨v, rfl, hr, hb⟩
  rw [hf] at hr
  obtain ⟨A4, c4, rfl⟩ := Kd.R_slice hr
  obtain ⟨h1, h2, h3⟩ := Kd.R_reads' hr
  rw [deep_len] at h1 h2 h3 ⊢
  exact ⟨_, _, rfl, ⟨h3, h2⟩, hb⟩
/-- Three slices of tokens in a new row. -/
theorem lit107 (w : World) (A3 : Option Addr) (c3 : Nat) (A6 : Option Addr) (c6 q8 : Nat) (h3 : Kd.C k46 w A3 1200 (rep 600 [tK 7, tE4]) ∧ 1200 ≤ c3) (h6 : Kd.C k46 w A6 600 (rep 600 [tK 8]) ∧ 600 ≤ c6) (h8 : Kd.C k46 w (some ⟨q8, 0, none⟩) 1 [tSt]) :
    Kd.C (Kd.slice 46 k46) (w.alloc (.cells #[.slice A3 1200 c3, .slice A6 600 c6, .slice (some ⟨q8, 0, none⟩) 1 1] 23)) (some ⟨w.heap.size, 0, none⟩) 3 [rep 600 [tK 7, tE4], rep 600 [tK 8], [tSt]] := by
  have hal : Below w.heap.size w (w.alloc (.cells #[.slice A3 1200 c3, .slice A6 600 c6, .slice (some ⟨q8, 0, none⟩) 1 1] 23)) := (Below.refl _ _).alloc (Nat.le_refl _) _
  have l3 : (rep 600 [tK 7, tE4]).length = 1200 := rep_len _ _
  have l6 : (rep 600 [tK 8]).length = 600 := rep_len _ _
  have key : ∀ (j : Nat) (u : Value), (#[.slice A3 1200 c3, .slice A6 600 c6, .slice (some ⟨q8, 0, none⟩) 1 1] : Array Value)[j]? = some u → (w.alloc (.cells #[.slice A3 1200 c3, .slice A6 600 c6, .slice (some ⟨q8, 0, none⟩) 1 1] 23)).cell? (Addr.add ⟨w.heap.size, 0, none⟩ (j * 1 + 0)) = some u := fun j u hu => by
    rw [Addr.add_lit, Nat.zero_add, World.cell?_alloc_new, Nat.mul_one, Nat.add_zero]; exact hu
  refine ⟨rfl, by decide, fun _ => ⟨_, rfl, fun j p hj => ?_⟩⟩
  have one : ∀ (v : Value), (#[.slice A3 1200 c3, .slice A6 600 c6, .slice (some ⟨q8, 0, none⟩) 1 1] : Array Value)[j]? = some v → ∀ (i : Nat) (u : Value), ([v] : List Value)[i]? = some u → (w.alloc (.cells #[.slice A3 1200 c3, .slice A6 600 c6, .slice (some ⟨q8, 0, none⟩) 1 1] 23)).cell? (Addr.add ⟨w.heap.size, 0, none⟩ (j * 1 + i)) = some u := fun v hv i u hu => by
    match i, hu with
    | 0, hu =>
      obtain rfl := Option.some.inj hu
      exact key j _ hv
  match j, hj with
  | 0, hj =>
    obtain rfl := Option.some.inj hj
    exact ⟨[.slice A3 1200 c3], rfl, ⟨A3, c3, by rw [l3], by rw [l3]; exact h3.2, by rw [l3]; exact Kd.C_below h3.1 hal⟩, one _ rfl⟩
  | 1, hj =>
    obtain rfl := Option.some.inj hj
    exact ⟨[.slice A6 600 c6], rfl, ⟨A6, c6, by rw [l6], by rw [l6]; exact h6.2, by rw [l6]; exact Kd.C_below h6.1 hal⟩, one _ rfl⟩
  | 2, hj =>
    obtain rfl := Option.some.inj hj
    exact ⟨[.slice (some ⟨q8, 0, none⟩) 1 1], rfl, ⟨some ⟨q8, 0, none⟩, 1, rfl, Nat.le_refl _, Kd.C_below h8 hal⟩, one _ rfl⟩
set_option maxRecDepth 100000 in
theorem p298 : (parseF (rep 298 [tE4] ++ [tSt]) 0).map (fun r => (r.1.length, r.2)) = some (298, 0, 299, 0) := by kernel_rfl
set_option maxRecDepth 100000 in
theorem p299 : (parseF (rep 299 [tE4] ++ [tSt]) 0).map (fun r => (r.1.length, r.2)) = some (299, 0, 300, 0) := by kernel_rfl
set_option maxRecDepth 100000 in
theorem p300 : (parseF (rep 300 [tE4] ++ [tSt]) 0).map (fun r => (r.1.length, r.2)) = some (300, 0, 301, 0) := by kernel_rfl
set_option maxRecDepth 100000 in
theorem p301 : (parseF (rep 301 [tE4] ++ [tSt]) 0).map (fun r => (r.1.length, r.2)) = some (0, 0, 0, 18) := by kernel_rfl
set_option maxRecDepth 100000 in
theorem t22 : (tagsF (rep 22 tags4) 0).map (fun r => (r.1.length, r.2)) = some (22, 88, 0) := by kernel_rfl
set_option maxRecDepth 100000 in
theorem t23 : (tagsF (rep 23 tags4) 0).map (fun r => (r.1.length, r.2)) = some (23, 92, 0) := by kernel_rfl
set_option maxRecDepth 100000 in
theorem t24 : (tagsF (rep 24 tags4) 0).map (fun r => (r.1.length, r.2)) = some (24, 96, 0) := by kernel_rfl
set_option maxRecDepth 100000 in
theorem t25 : (tagsF (rep 25 tags4) 0).map (fun r => (r.1.length, r.2)) = some (0, 0, 18) := by kernel_rfl
set_option maxRecDepth 100000 in
theorem pdeep : (parseF deepL 0).map (fun r => (r.1.length, r.2)) = some (0, 0, 1801, 0) := by kernel_rfl
set_option maxRecDepth 100000 in
theorem pdeep1 : (parseF (deepL.drop 1) 0).map (fun r => (r.1.length, r.2)) = some (0, 0, 0, 16) := by kernel_rfl
end Go.Proofs.YtlpoglkddknedaaDoor.L

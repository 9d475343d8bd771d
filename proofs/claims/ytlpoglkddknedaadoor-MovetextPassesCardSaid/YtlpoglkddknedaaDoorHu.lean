/- slices.Clone of tokens and of strings: a new row with the same elements. Condition: the length's bytes are within the reach. · movetext.Number: the word in front of a move, as numberF tells it. Condition: the variables hold what their initialisers lay. · movetext.Wrap: words in lines, as wrapF tells it. Conditions: wrapF answers; the call of strings.ContainsAny at each word (HasAny). -/
import Derived.Test.YtlpoglkddknedaaDoorHm
import Derived.Test.YtlpoglkddknedaaDoorHs
import Derived.Laws.NewBlocks
import Derived.Test.YtlpoglkddknedaaDoorHg
import Derived.Lib.ItoaLen
import Derived.Lib.AppendIntMem
import Derived.Lib.Builder
import Derived.Shelf.Strings.SlTrimAscii
namespace Go.Proofs.YtlpoglkddknedaaDoor.H
open Go.RowKit Go.Shelf Go.Proofs.YtlpoglkddknedaaDoor.T Go.Proofs.YtlpoglkddknedaaDoorW.PrintWords Go.Proofs.YtlpoglkddknedaaDoorW.PrintLast
set_option linter.unusedVariables false
set_option linter.unusedSimpArgs false

def flatT (l : List S46) : List Value := l.flatMap fun x => [.int .i64 x.f0, .string x.f1, .int .i64 x.f2]
theorem flatT_len : ∀ l : List S46, (flatT l).length = l.length * 3
  | [] => rfl
  | x :: l => by
    have := flatT_len l
    unfold flatT at *
    rw [List.flatMap_cons, List.length_append, this, List.length_cons]
    simp only [List.length_cons, List.length_nil]
    omega
theorem flatT_at : ∀ (l : List S46) (j i : Nat) (x : S46), l[j]? = some x → i < 3 → (flatT l)[j * 3 + i]? = ([Value.int .i64 x.f0, .string x.f1, .int .i64 x.f2])[i]?
  | [], j, i, x, h, _ => by simp at h
  | y :: l, 0, i, x, h, hi => by
    obtain rfl : y = x := by simpa using h
    unfold flatT
    rw [List.flatMap_cons, Nat.zero_mul, Nat.zero_add, List.getElem?_append_left (by simpa using hi)]
  | y :: l, j + 1, i, x, h, hi => by
    have ih := flatT_at l j i x (by simpa using h) hi
    unfold flatT at *
    rw [List.flatMap_cons, List.getElem?_append_right (by simp only [List.length_cons, List.length_nil]; omega)]
    rw [← ih]
    congr 1
    simp only [List.length_cons, List.length_nil]
    omega
theorem flatT_reps (w : World) (base : Nat) (ok : Nat → Prop) : ∀ l : List S46, Reps (k46.M w base ok) 3 l (flatT l) := by
  intro l
  refine ⟨flatT_len l, fun j p hp => ?_⟩
  have h0 := flatT_at l j 0 p hp (by decide)
  have h1 := flatT_at l j 1 p hp (by decide)
  have h2 := flatT_at l j 2 p hp (by decide)
  have e : ((flatT l).drop (j * 3)).take 3 = [.int .i64 p.f0, .string p.f1, .int .i64 p.f2] := by
    refine List.ext_getElem? fun i => ?_
    rw [List.getElem?_take]
    split
    · rename_i hi
      rw [List.getElem?_drop]
      match i, hi with
      | 0, _ => exact h0
      | 1, _ => exact h1
      | 2, _ => exact h2
    · rename_i hi
      exact (List.getElem?_eq_none (by simp only [List.length_cons, List.length_nil]; omega)).symm
  rw [e]
  exact k46_mkM w base ok p
theorem flatT_cell {w : World} {a : Addr} {l : List S46} (h : ∀ j p, l[j]? = some p → ∃ c, c.length = 3 ∧ k46.K w p c ∧ ∀ i u, c[i]? = some u → w.cell? (a.add (j * 3 + i)) = some u) (j : Nat) (u : Value) (hj : (flatT l)[j]? = some u) : w.cell? (a.add j) = some u := by
  have hlt : j < l.length * 3 := by rw [← flatT_len]; exact (List.getElem?_eq_some_iff.1 hj).1
  have hd : j / 3 < l.length := by omega
  obtain ⟨c, hc, hk, hcell⟩ := h (j / 3) _ (List.getElem?_eq_getElem hd)
  obtain rfl := k46_open hk
  have h1 := flatT_at l (j / 3) (j % 3) _ (List.getElem?_eq_getElem hd) (by omega)
  rw [show j / 3 * 3 + j % 3 = j by omega, hj] at h1
  have h2 := hcell (j % 3) u h1.symm
  rwa [show j / 3 * 3 + j % 3 = j by omega] at h2

theorem eqlnil23 : ∀ (w : World) (a : Option Addr) (n c n' c' : Nat), (binOp .eql 23 (.slice a n c) (.slice none n' c')).run Tryd.prog w = .ok (.bool a.isNone) w := fun w a n c n' c' => Lib.run_eql_slice_nil w _ _ a n c n' c' Tryd.underlying23
theorem i46 : ∃ i0, Tryd.prog.info? 46 = some i0 ∧ i0.zero = some (.agg #[(.int .i64 0), (.string ⟨#[]⟩), (.int .i64 0)]) ∧ i0.size = 3 ∧ i0.bytes = 32 := by
  have h : (Tryd.prog.info? 46).map (fun i => (i.zero, i.size, i.bytes)) = some (some (.agg #[(.int .i64 0), (.string ⟨#[]⟩), (.int .i64 0)]), 3, 32) := by kernel_rfl
  obtain ⟨i0, h1, h2⟩ := Option.map_eq_some_iff.1 h
  simp only [Prod.mk.injEq] at h2
  exact ⟨i0, h1, h2.1, h2.2.1, h2.2.2⟩

attribute [local go_sem] eqlnil23
set_option maxHeartbeats 1000000 in
set_option maxRecDepth 100000 in
theorem CloneT_calls (A0 : Option Addr) (c0 : Nat) (l0 : List S46) (w : World) (hr0 : Kd.C k46 w A0 l0.length l0) (hc0 : l0.length ≤ c0) (hn : l0.length ≤ 4398046511104) :
    Calls Tryd.prog 16 #[.slice A0 l0.length c0] w fun e w' => ∃ v0_ : Value, e = .returned (v0_) ∧ Kd.R k46 46 w' w.heap.size (fun _ => True) v0_ l0 ∧ Below w.heap.size w w' := by
  cases A0 with
  | none =>
    have hl : l0 = [] := by
      cases l0 with
      | nil => rfl
      | cons x l => obtain ⟨ad, e, _⟩ := hr0.2.2 (by simp); cases e
    subst hl
    clear hr0 hc0 hn
    go_enter Tryd.func16, Tryd.ntmps16
    go_wp2
    go_ret
    exact ⟨_, rfl, Kd.R_nil _ _ _ _ _, Below.refl _ _⟩
  | some a =>
    have hcell : ∀ j u, (flatT l0)[j]? = some u → w.cell? (a.add j) = some u := by
      intro j u hj
      have hlt : j < l0.length * 3 := by rw [← flatT_len]; exact (List.getElem?_eq_some_iff.1 hj).1
      obtain ⟨ad, e, h⟩ := hr0.2.2 (by omega)
      obtain rfl := Option.some.inj e
      exact flatT_cell h j u hj
    obtain ⟨i0, hi, hz0, hz1, hz2⟩ := i46
    have HI := Lib.hid hi
    have HZ0 := Lib.hid hz0
    have HZ1 := Lib.hid hz1
    have HZ2 := Lib.hid hz2
    have HC := Lib.hid hcell
    clear hr0 hc0 hi hz0 hz1 hz2 hcell
    go_enter Tryd.func16, Tryd.ntmps16
    go_wp2_with (at_builtin; refine wpList_append_own _ rfl _ _ 23 rfl w.heap.size 46 i0 (.agg #[(.int .i64 0), (.string ⟨#[]⟩), (.int .i64 0)]) 3 32 Tryd.underlying23 HI.out HZ0.out HZ1.out HZ2.out rfl (by decide) _ _ _ rfl (World.ownsRow_made w #[] 0 (Nat.le_refl _) (Nat.zero_le _) (by simp)) a l0.length c0 (flatT l0) rfl ?qc1 ?qc2 ?qc3 ?qc4 ?qc5 ?qc6 ?_)
    case qc1 => exact flatT_len l0
    case qc2 =>
      intro j u hj
      exact Lib.cell?_alloc_some _ (HC.out j u hj)
    case qc3 =>
      intro u hu
      unfold flatT at hu
      obtain ⟨x, _, hx⟩ := List.mem_flatMap.1 hu
      simp only [List.mem_cons, List.not_mem_nil, or_false] at hx
      rcases hx with rfl | rfl | rfl <;> rfl
    case qc4 => rw [Nat.zero_add]; unfold maxLen; omega
    case qc5 => rw [Nat.zero_add]; omega
    case qc6 => simp
    intro v' w1 hown hgrow hnil
    go_wp2
    go_ret
    refine ⟨v', rfl, ⟨fun _ _ => trivial, flatT l0, (by show w1.ownsRow w.heap.size 46 3 v' l0.length (flatT l0); simpa using hown), flatT_reps _ _ _ l0⟩, ?_⟩
    exact ((Below.refl _ w).alloc (Nat.le_refl _) _).grown hgrow (by simp) (by intro k hk; simp [Value.ownBlock] at hk; omega)

theorem eqlnil25 : ∀ (w : World) (a : Option Addr) (n c n' c' : Nat), (binOp .eql 25 (.slice a n c) (.slice none n' c')).run Tryd.prog w = .ok (.bool a.isNone) w := fun w a n c n' c' => Lib.run_eql_slice_nil w _ _ a n c n' c' Tryd.underlying25
theorem i9 : ∃ i0, Tryd.prog.info? 9 = some i0 ∧ i0.zero = some (.string ⟨#[]⟩) ∧ i0.size = 1 ∧ i0.bytes = 16 := by
  have h : (Tryd.prog.info? 9).map (fun i => (i.zero, i.size, i.bytes)) = some (some (.string ⟨#[]⟩), 1, 16) := by kernel_rfl
  obtain ⟨i0, h1, h2⟩ := Option.map_eq_some_iff.1 h
  simp only [Prod.mk.injEq] at h2
  exact ⟨i0, h1, h2.1, h2.2.1, h2.2.2⟩
theorem flatS_reps (w : World) (base : Nat) (ok : Nat → Prop) (l : List ByteArray) : Reps (Kd.string.M w base ok) 1 l (l.map Value.string) := by
  refine ⟨by rw [List.length_map, Nat.mul_one], fun j p hp => ?_⟩
  have hlt := (List.getElem?_eq_some_iff.1 hp).1
  have e : ((l.map Value.string).drop (j * 1)).take 1 = [.string p] := by
    rw [Nat.mul_one, List.drop_eq_getElem_cons (by rw [List.length_map]; exact hlt), List.take_succ_cons, List.take_zero, List.getElem_map, (List.getElem?_eq_some_iff.1 hp).2]
  rw [e]
  rfl
attribute [local go_sem] eqlnil25
set_option maxHeartbeats 1000000 in
set_option maxRecDepth 100000 in
theorem CloneS_calls (A0 : Option Addr) (c0 : Nat) (l0 : List ByteArray) (w : World) (hr0 : Kd.C Kd.string w A0 l0.length l0) (hc0 : l0.length ≤ c0) (hn : l0.length ≤ 4398046511104) :
    Calls Tryd.prog 23 #[.slice A0 l0.length c0] w fun e w' => ∃ v0_ : Value, e = .returned (v0_) ∧ Kd.R Kd.string 9 w' w.heap.size (fun _ => True) v0_ l0 ∧ Below w.heap.size w w' := by
  cases A0 with
  | none =>
    have hl : l0 = [] := by
      cases l0 with
      | nil => rfl
      | cons x l => obtain ⟨ad, e, _⟩ := hr0.2.2 (by simp); cases e
    subst hl
    clear hr0 hc0 hn
    go_enter Tryd.func23, Tryd.ntmps23
    go_wp2
    go_ret
    exact ⟨_, rfl, Kd.R_nil _ _ _ _ _, Below.refl _ _⟩
  | some a =>
    have hcell : ∀ j u, (l0.map Value.string)[j]? = some u → w.cell? (a.add j) = some u := by
      intro j u hj
      rw [List.getElem?_map] at hj
      obtain ⟨p, hp, rfl⟩ := Option.map_eq_some_iff.1 hj
      have hlt := (List.getElem?_eq_some_iff.1 hp).1
      obtain ⟨ad, e, h⟩ := hr0.2.2 (by omega)
      obtain rfl := Option.some.inj e
      obtain ⟨c, hc, hk, hcell⟩ := h j p hp
      obtain rfl : c = [.string p] := hk
      have h1 := hcell 0 _ rfl
      rwa [show j * Kd.string.sz + 0 = j from Nat.mul_one j] at h1
    obtain ⟨i0, hi, hz0, hz1, hz2⟩ := i9
    have HI := Lib.hid hi
    have HZ0 := Lib.hid hz0
    have HZ1 := Lib.hid hz1
    have HZ2 := Lib.hid hz2
    have HC := Lib.hid hcell
    clear hr0 hc0 hi hz0 hz1 hz2 hcell
    go_enter Tryd.func23, Tryd.ntmps23
    go_wp2_with (at_builtin; refine wpList_append_own _ rfl _ _ 25 rfl w.heap.size 9 i0 (.string ⟨#[]⟩) 1 16 Tryd.underlying25 HI.out HZ0.out HZ1.out HZ2.out rfl (by decide) _ _ _ rfl (World.ownsRow_made w #[] 0 (Nat.le_refl _) (Nat.zero_le _) (by simp)) a l0.length c0 (l0.map Value.string) rfl ?qc1 ?qc2 ?qc3 ?qc4 ?qc5 ?qc6 ?_)
    case qc1 => rw [List.length_map, Nat.mul_one]
    case qc2 =>
      intro j u hj
      exact Lib.cell?_alloc_some _ (HC.out j u hj)
    case qc3 =>
      intro u hu
      obtain ⟨x, _, rfl⟩ := List.mem_map.1 hu
      rfl
    case qc4 => rw [Nat.zero_add]; unfold maxLen; omega
    case qc5 => rw [Nat.zero_add]; omega
    case qc6 => simp
    intro v' w1 hown hgrow hnil
    go_wp2
    go_ret
    refine ⟨v', rfl, ⟨fun _ _ => trivial, l0.map Value.string, (by show w1.ownsRow w.heap.size 9 1 v' l0.length (l0.map Value.string); simpa using hown), flatS_reps _ _ _ l0⟩, ?_⟩
    exact ((Below.refl _ w).alloc (Nat.le_refl _) _).grown hgrow (by simp) (by intro k hk; simp [Value.ownBlock] at hk; omega)
end Go.Proofs.YtlpoglkddknedaaDoor.H

namespace Go.Proofs.YtlpoglkddknedaaDoor.H
open Go.RowKit Go.Shelf Go.Proofs.YtlpoglkddknedaaDoor.T Go.Proofs.YtlpoglkddknedaaDoorW.PrintWords Go.Proofs.YtlpoglkddknedaaDoorW.PrintLast
set_option linter.unusedVariables false
set_option linter.unusedSimpArgs false

def numberF (full turn : Int) (first : Bool) : ByteArray × Int :=
  if full < 1 ∨ 10000 < full ∨ (turn ≠ 0 ∧ turn ≠ 1) then (⟨#[]⟩, 2)
  else if turn = 0 then (⟨(Lib.itoa full).toArray⟩ ++ ⟨#[46]⟩, 0)
  else if first = true then (⟨(Lib.itoa full).toArray⟩ ++ ⟨#[46, 46, 46]⟩, 0)
  else (⟨#[]⟩, 0)
theorem itoa_any (n : Int) (h0 : 0 ≤ n) (h1 : n ≤ 1000000) (w : World) (hg : Laid w) :
    Calls Tryd.prog 14 #[.int .i64 n] w fun e w' => e = .returned (.string ⟨(Lib.itoa n).toArray⟩) ∧ Below w.heap.size w w' := by
  refine (Tryd.strconv_Itoa n (by omega) (by omega) w hg.pow).mono ?_
  rintro e w1 ⟨rfl, k, os, rfl⟩
  exact ⟨rfl, Lib.below_grow _ w (Nat.le_refl _) k os⟩
set_option maxHeartbeats 1000000 in
theorem Number_calls (a0 a1 : Int) (a2 : Bool) (r1 : ByteArray) (r2 : Int) (w : World) (h : some (numberF a0 a1 a2) = some (r1, r2)) (hg : Laid w) :
    Calls Tryd.prog 13 #[.int .i64 a0, .int .i64 a1, .bool a2] w fun e w' => e = .returned (.tuple #[.string r1, .int .i64 r2]) ∧ Below w.heap.size w w' := by
  have h' := Option.some.inj h
  clear h
  unfold numberF at h'
  by_cases c1 : a0 < 1
  · rw [if_pos (.inl c1)] at h'
    obtain ⟨rfl, rfl⟩ := Prod.mk.inj h'
    have d1 : decide (a0 < 1) = true := decide_eq_true c1
    clear h' c1
    go_enter Tryd.func13, Tryd.ntmps13
    go_wp2
    go_ret2
    exact ⟨rfl, Below.refl _ _⟩
  · have d1 : decide (a0 < 1) = false := decide_eq_false c1
    by_cases c2 : 10000 < a0
    · rw [if_pos (.inr (.inl c2))] at h'
      obtain ⟨rfl, rfl⟩ := Prod.mk.inj h'
      have d2 : decide (10000 < a0) = true := decide_eq_true c2
      clear h' c1 c2
      go_enter Tryd.func13, Tryd.ntmps13
      go_wp2
      go_ret2
      exact ⟨rfl, Below.refl _ _⟩
    · have d2 : decide (10000 < a0) = false := decide_eq_false c2
      by_cases c3 : a1 = 0
      · subst c3
        rw [if_neg (by omega), if_pos rfl] at h'
        obtain ⟨rfl, rfl⟩ := Prod.mk.inj h'
        have HG := Lib.hid hg
        clear hg h'
        have hsz : (9223372036854775807 < (Lib.itoa a0).length + 1) = False := eq_false (by have := Lib.itoa_length_le a0 (by omega) (by omega); omega)
        go_enter Tryd.func13, Tryd.ntmps13
        go_wp2_with (go_at_call 14; (with_reducible refine (itoa_any a0 (by omega) (by omega) w HG.out).mono ?_); rintro e w1 ⟨rfl, hb1⟩; have HB1 := Lib.hid hb1; clear hb1)
        go_ret2
        exact ⟨rfl, HB1.out⟩
      · have d3 : (a1 == 0) = false := beq_eq_false_iff_ne.2 c3
        have d3' : (a1 != 0) = true := bne_iff_ne.2 c3
        by_cases c4 : a1 = 1
        · subst c4
          cases a2 with
          | true =>
            rw [if_neg (by omega), if_neg (by decide), if_pos rfl] at h'
            obtain ⟨rfl, rfl⟩ := Prod.mk.inj h'
            have HG := Lib.hid hg
            clear hg h'
            have hsz : (9223372036854775807 < (Lib.itoa a0).length + 3) = False := eq_false (by have := Lib.itoa_length_le a0 (by omega) (by omega); omega)
            go_enter Tryd.func13, Tryd.ntmps13
            go_wp2_with (go_at_call 14; (with_reducible refine (itoa_any a0 (by omega) (by omega) w HG.out).mono ?_); rintro e w1 ⟨rfl, hb1⟩; have HB1 := Lib.hid hb1; clear hb1)
            go_ret2
            exact ⟨rfl, HB1.out⟩
          | false =>
            rw [if_neg (by omega), if_neg (by decide), if_neg (by decide)] at h'
            obtain ⟨rfl, rfl⟩ := Prod.mk.inj h'
            clear hg h'
            go_enter Tryd.func13, Tryd.ntmps13
            go_wp2
            go_ret2
            exact ⟨rfl, Below.refl _ _⟩
        · have d4 : (a1 == 1) = false := beq_eq_false_iff_ne.2 c4
          have d4' : (a1 != 1) = true := bne_iff_ne.2 c4
          rw [if_pos (.inr (.inr ⟨c3, c4⟩))] at h'
          obtain ⟨rfl, rfl⟩ := Prod.mk.inj h'
          clear hg h'
          go_enter Tryd.func13, Tryd.ntmps13
          go_wp2
          go_ret2
          exact ⟨rfl, Below.refl _ _⟩
end Go.Proofs.YtlpoglkddknedaaDoor.H

namespace Go.Proofs.YtlpoglkddknedaaDoor.H
open Go.RowKit Go.Shelf Go.Lib Go.Proofs.YtlpoglkddknedaaDoor.T Go.Proofs.YtlpoglkddknedaaDoorW.PrintWords Go.Proofs.YtlpoglkddknedaaDoorW.PrintLast
set_option linter.unusedVariables false
set_option linter.unusedSimpArgs false

def blankB (b : UInt8) : Bool := b == 32 || b == 9 || b == 13 || b == 10
/-- There is white space in it. -/
def blankF (s : ByteArray) : Bool := s.data.toList.any blankB
/-- The bytes of the lines, and how many the last line has; none: a word is wrong. -/
def wrapL (width : Int) : List ByteArray → List UInt8 → Nat → Option (List UInt8 × Nat)
  | [], acc, line => some (acc, line)
  | w :: ws, acc, line =>
    if w.size = 0 ∨ blankF w = true then none
    else if line = 0 then wrapL width ws (acc ++ w.data.toList) w.size
    else if (line : Int) + 1 + w.size ≤ width then wrapL width ws (acc ++ 32 :: w.data.toList) (line + 1 + w.size)
    else wrapL width ws (acc ++ 10 :: w.data.toList) w.size
def cost : List ByteArray → Nat
  | [] => 0
  | w :: ws => w.size + 1 + cost ws
def wrapR : Option (List UInt8 × Nat) → ByteArray × Int
  | none => (⟨#[]⟩, 2)
  | some (acc, line) => (⟨(if 0 < line then acc ++ [10] else acc).toArray⟩, 0)
def wrapF (words : List ByteArray) (width : Int) : Option (ByteArray × Int) :=
  if width < 1 ∨ 255 < width then some (⟨#[]⟩, 2)
  else if cost words ≤ 1000000 ∧ words.all (fun s => s.data.toList.all (fun b => decide (b.toNat < 128))) = true then some (wrapR (wrapL width words [] 0)) else none
/-- strings.ContainsAny of a word and the blanks. -/
abbrev HasAny (s : ByteArray) : Prop := ∀ w : World, Laid w → Calls Tryd.prog 43 #[.string s, .string ⟨#[32, 9, 13, 10]⟩] w fun e w' => e = .returned (.bool (blankF s)) ∧ Below w.heap.size w w'
theorem isb_below {B b : Nat} {bs : List Value} {w w' : World} (h : IsBuilder 93 5 B b bs w) (hb : Below w.heap.size w w') : IsBuilder 93 5 B b bs w' := by
  rcases h with ⟨h1, v, h2, h3, h4⟩ | ⟨h1, v, h2, h3, h4⟩
  · exact .inl ⟨h1, v, blk_below h2 hb, pw_own_below h3 hb, h4⟩
  · exact .inr ⟨h1, v, blk_below h2 hb, pw_own_below h3 hb, h4⟩

theorem drop_word (l : List ByteArray) (j : Nat) (h : j < l.length) : l.drop j = l.getD j ⟨#[]⟩ :: l.drop (j + 1) := by
  rw [List.drop_eq_getElem_cons h, List.getD_eq_getElem?_getD, List.getElem?_eq_getElem h]
  rfl

set_option maxHeartbeats 4000000 in
set_option maxRecDepth 100000 in
theorem Wrap_any (A0 : Option Addr) (c0 : Nat) (l0 : List ByteArray) (width : Int) (W : World) (hr0 : Kd.C Kd.string W A0 l0.length l0) (hg : Laid W) (hA : ∀ s ∈ l0, HasAny s) (h1 : 1 ≤ width) (h2 : width ≤ 255) (hcost : cost l0 ≤ 1000000) (R : Option (List UInt8 × Nat)) (hR : wrapL width l0 [] 0 = R) :
    Calls Tryd.prog 12 #[.slice A0 l0.length c0, .int .i64 width] W fun e w' => e = .returned (.tuple #[.string (wrapR R).1, .int .i64 (wrapR R).2]) ∧ Below W.heap.size W w' := by
  have hlen := hr0.2.1
  have HC := Lib.hid hr0
  have HG := Lib.hid hg
  have HA := Lib.hid hA
  have HR := Lib.hid hR
  have HCO := Lib.hid hcost
  clear hr0 hg hA hR hcost
  have d1 : decide (width < 1) = false := decide_eq_false (by omega)
  have d2 : decide (255 < width) = false := decide_eq_false (by omega)
  have hFB := Lib.hid (Lib.fresh_isBuilder 93 5 W)
  have hFW := Lib.hid ((Below.refl W.heap.size W).alloc (Nat.le_refl _) (.cells #[.pointer none, .slice none 0 0] 93))
  go_enter Tryd.func12, Tryd.ntmps12
  go_wp2
  obtain ⟨b, hb⟩ : ∃ b, W.heap.size = b := ⟨_, rfl⟩
  obtain ⟨w1, hw1⟩ : ∃ w1, W.alloc (.cells #[.pointer none, .slice none 0 0] 93) = w1 := ⟨_, rfl⟩
  rw [hw1, hb] at hFB
  rw [hw1, hb] at hFW
  rw [hw1, hb]
  go_loopw [4, 5, 7, 18] (fun v4 v5 v7 v18 wr => ∃ (j : Nat) (acc : List UInt8) (line : Nat), v4 = .string ⟨#[]⟩ ∧ v5 = .int .i64 0 ∧ v7 = .int .i64 (line : Int) ∧ v18 = .int .i64 (j : Int) ∧ j ≤ l0.length ∧ wrapL width (l0.drop j) acc line = R ∧ IsBuilder 93 5 b b (byteCells acc) wr ∧ Below b W wr ∧ acc.length + cost (l0.drop j) ≤ 1000000 ∧ line ≤ acc.length) (fun _ _ _ v18 _ => l0.length - (Go.RowKit.intOf v18).toNat)
  case atStart => exact ⟨0, [], 0, rfl, rfl, rfl, rfl, Nat.zero_le _, HR.out, hFB.out, hFW.out, by simpa using HCO.out, Nat.le_refl _⟩
  case round =>
    clear hFB hFW HR HCO
    obtain ⟨j, acc, line, rfl, rfl, rfl, rfl, hj, hw, hi, hbe, hco, hli⟩ := hrel
    have HI := Lib.hid hi
    have HBE := Lib.hid hbe
    clear hi hbe
    by_cases hjl : j < l0.length
    · obtain ⟨ad, c, e, hcl, hK, hcell⟩ := Kd.C_get (Kd.C_below HC.out (hb.symm ▸ HBE.out)) ⟨#[]⟩ (j : Int) (by omega) (by omega)
      subst e
      rw [Int.toNat_natCast] at hK hcell
      obtain ⟨s, hs⟩ : ∃ s, l0.getD j ⟨#[]⟩ = s := ⟨_, rfl⟩
      rw [hs] at hK
      obtain rfl : c = [.string s] := hK
      have hx : wr.cell? (ad.add j) = some (.string s) := by
        have h := hcell 0 _ rfl
        rwa [show j * Kd.string.sz + 0 = j from Nat.mul_one j] at h
      clear hcell hcl
      have hmem : s ∈ l0 := by
        rw [← hs, List.getD_eq_getElem?_getD, List.getElem?_eq_getElem hjl]
        exact List.getElem_mem hjl
      rw [drop_word l0 j hjl, hs, wrapL] at hw
      rw [drop_word l0 j hjl, hs, cost] at hco
      have HX := Lib.hid (HA.out s hmem)
      have HLG := Lib.hid (HG.out.below (hb.symm ▸ HBE.out))
      have q1 : ((j : Int) < (l0.length : Int)) = True := eq_true (by omega)
      have q2 : (0 ≤ (j : Int)) = True := eq_true (by omega)
      have q3 : (j < l0.length) = True := eq_true hjl
      clear hs hmem
      by_cases h0 : s.size = 0
      · rw [if_pos (.inl h0)] at hw
        subst hw
        have e0 : s.toList = [] := by
          rw [Lib.toList_data]
          have := Lib.size_eq s
          exact List.eq_nil_of_length_eq_zero (by omega)
        have e1 : (s.toList == []) = true := beq_iff_eq.2 e0
        clear e0
        go_wp2
        go_ret2
        exact ⟨rfl, hb.symm ▸ HBE.out⟩
      · have e0 : s.toList ≠ [] := by
          rw [Lib.toList_data]
          have := Lib.size_eq s
          intro h
          rw [h] at this
          exact h0 (by simpa using this)
        have e1 : (s.toList == []) = false := beq_eq_false_iff_ne.2 e0
        clear e0
        cases hbl : blankF s with
        | true =>
          rw [if_pos (.inr hbl)] at hw
          subst hw
          go_wp2_with (go_at_call 43; (with_reducible refine (HX.out wr HLG.out).mono ?_); rintro e w2 ⟨rfl, hb2⟩; rw [hbl]; have HB2 := Lib.hid hb2; clear hb2)
          go_ret2
          exact ⟨rfl, (hb.symm ▸ HBE.out : Below W.heap.size W wr).trans (HB2.out.mono (hb.symm ▸ HBE.out.size))⟩
        | false =>
          rw [if_neg (by rintro (h | h); exact h0 h; rw [hbl] at h; cases h)] at hw
          have hbw : b ≤ wr.heap.size := by rw [← hb]; exact HBE.out.size
          go_upto_region 12 with (go_at_call 43; (with_reducible refine (HX.out wr HLG.out).mono ?_); rintro e w2 ⟨rfl, hb2⟩; rw [hbl]; have HB2 := Lib.hid hb2; clear hb2)
          have HI2 := Lib.hid (isb_below HI.out HB2.out)
          have hbw2 : b ≤ w2.heap.size := Nat.le_trans hbw HB2.out.size
          have HBE2 := Lib.hid (HBE.out.trans (HB2.out.mono hbw))
          clear HI HBE HB2 HX HLG hx
          by_cases hz : line = 0
          · subst hz
            rw [if_pos rfl] at hw
            have HW := Lib.hid hw
            clear hw
            go_wp2_with (go_at_call 45; (with_reducible refine (Tryd.Builder_WriteString b b (byteCells acc) s w2 HI2.out (by rw [byteCells_length]; omega) hbw2).mono ?_); rintro e w3 ⟨rfl, hi3, hb3⟩; have HI3 := Lib.hid hi3; have HB3 := Lib.hid hb3; clear hi3 hb3)
            go_roundw
            case rel =>
              refine ⟨j + 1, acc ++ s.data.toList, s.size, rfl, rfl, by simp, by simp, by omega, HW.out, ?_, HBE2.out.trans HB3.out, ?_, ?_⟩
              · rw [byteCells_append]; exact Or.inr HI3.out
              · rw [List.length_append]; have := Lib.size_eq s; omega
              · rw [List.length_append]; have := Lib.size_eq s; omega
            case measure => show l0.length - ((j + 1 : Nat) : Int).toNat < l0.length - ((j : Nat) : Int).toNat; omega
          · rw [if_neg hz] at hw
            have z1 : ((line : Int) == 0) = false := beq_eq_false_iff_ne.2 (by omega)
            by_cases hfit : (line : Int) + 1 + s.size ≤ width
            · rw [if_pos hfit] at hw
              have z2 : decide ((line : Int) + 1 + (s.size : Int) ≤ width) = true := decide_eq_true hfit
              have HW := Lib.hid hw
              clear hw
              go_wp2_with (first
                | (go_at_call 44; (with_reducible refine (Tryd.Builder_WriteByte b b (byteCells acc) 32 w2 HI2.out (by rw [byteCells_length]; omega) hbw2).mono ?_); rintro e w3 ⟨rfl, hi3, hb3⟩; have HI3 := Lib.hid (show IsBuilder 93 5 b b (byteCells acc ++ [.int .u8 32]) w3 from Or.inr hi3); have HB3 := Lib.hid hb3; clear hi3 hb3)
                | (go_at_call 45; (with_reducible refine (Tryd.Builder_WriteString b b (byteCells acc ++ [.int .u8 32]) s w3 HI3.out (by rw [List.length_append, byteCells_length]; simp; omega) (Nat.le_trans hbw2 HB3.out.size)).mono ?_); rintro e w4 ⟨rfl, hi4, hb4⟩; have HI4 := Lib.hid hi4; have HB4 := Lib.hid hb4; clear hi4 hb4))
              go_roundw
              case rel =>
                refine ⟨j + 1, acc ++ 32 :: s.data.toList, line + 1 + s.size, rfl, rfl, by simp, by simp, by omega, HW.out, ?_, (HBE2.out.trans HB3.out).trans HB4.out, ?_, ?_⟩
                · have h := HI4.out
                  rw [List.append_assoc] at h
                  rw [byteCells_append]
                  exact Or.inr h
                · rw [List.length_append, List.length_cons]; have := Lib.size_eq s; omega
                · rw [List.length_append, List.length_cons]; have := Lib.size_eq s; omega
              case measure => show l0.length - ((j + 1 : Nat) : Int).toNat < l0.length - ((j : Nat) : Int).toNat; omega
            · rw [if_neg hfit] at hw
              have z2 : decide ((line : Int) + 1 + (s.size : Int) ≤ width) = false := decide_eq_false hfit
              have HW := Lib.hid hw
              clear hw
              go_wp2_with (first
                | (go_at_call 44; (with_reducible refine (Tryd.Builder_WriteByte b b (byteCells acc) 10 w2 HI2.out (by rw [byteCells_length]; omega) hbw2).mono ?_); rintro e w3 ⟨rfl, hi3, hb3⟩; have HI3 := Lib.hid (show IsBuilder 93 5 b b (byteCells acc ++ [.int .u8 10]) w3 from Or.inr hi3); have HB3 := Lib.hid hb3; clear hi3 hb3)
                | (go_at_call 45; (with_reducible refine (Tryd.Builder_WriteString b b (byteCells acc ++ [.int .u8 10]) s w3 HI3.out (by rw [List.length_append, byteCells_length]; simp; omega) (Nat.le_trans hbw2 HB3.out.size)).mono ?_); rintro e w4 ⟨rfl, hi4, hb4⟩; have HI4 := Lib.hid hi4; have HB4 := Lib.hid hb4; clear hi4 hb4))
              go_roundw
              case rel =>
                refine ⟨j + 1, acc ++ 10 :: s.data.toList, s.size, rfl, rfl, by simp, by simp, by omega, HW.out, ?_, (HBE2.out.trans HB3.out).trans HB4.out, ?_, ?_⟩
                · have h := HI4.out
                  rw [List.append_assoc] at h
                  rw [byteCells_append]
                  exact Or.inr h
                · rw [List.length_append, List.length_cons]; have := Lib.size_eq s; omega
                · rw [List.length_append, List.length_cons]; have := Lib.size_eq s; omega
              case measure => show l0.length - ((j + 1 : Nat) : Int).toNat < l0.length - ((j : Nat) : Int).toNat; omega
    · have q1 : ((j : Int) < (l0.length : Int)) = False := eq_false (by omega)
      have q3 : (j < l0.length) = False := eq_false hjl
      have hbw : b ≤ wr.heap.size := by rw [← hb]; exact HBE.out.size
      rw [List.drop_eq_nil_of_le (by omega), wrapL] at hw
      rw [List.drop_eq_nil_of_le (by omega), cost] at hco
      subst hw
      by_cases hz : line = 0
      · subst hz
        go_wp2_with (go_at_call 46; (with_reducible refine (Tryd.Builder_String_any b b acc wr HI.out hbw).mono ?_); rintro e w2 ⟨rfl, hb2⟩; have HB2 := Lib.hid hb2; clear hb2)
        go_ret2
        exact ⟨rfl, hb.symm ▸ (HBE.out.trans HB2.out)⟩
      · have z1 : decide (0 < (line : Int)) = true := decide_eq_true (by omega)
        have z2 : (0 < line) = True := eq_true (by omega)
        have hwr : wrapR (some (acc, line)) = (⟨(acc ++ [10]).toArray⟩, 0) := by show ((⟨(if 0 < line then acc ++ [10] else acc).toArray⟩ : ByteArray), (0 : Int)) = _; rw [if_pos (by omega)]
        go_wp2_with (first
          | (go_at_call 44; (with_reducible refine (Tryd.Builder_WriteByte b b (byteCells acc) 10 wr HI.out (by rw [byteCells_length]; omega) hbw).mono ?_); rintro e w3 ⟨rfl, hi3, hb3⟩; have HI3 := Lib.hid (show IsBuilder 93 5 b b (byteCells (acc ++ [10])) w3 by rw [byteCells_append]; exact Or.inr hi3); have HB3 := Lib.hid hb3; clear hi3 hb3)
          | (go_at_call 46; (with_reducible refine (Tryd.Builder_String_any b b (acc ++ [10]) w3 HI3.out (Nat.le_trans hbw HB3.out.size)).mono ?_); rintro e w2 ⟨rfl, hb2⟩; have HB2 := Lib.hid hb2; clear hb2))
        go_ret2
        exact ⟨by rw [hwr]; rfl, hb.symm ▸ ((HBE.out.trans HB3.out).trans HB2.out)⟩

set_option maxRecDepth 10000 in
theorem blank_mem (b : UInt8) : ([32, 9, 13, 10] : List UInt8).contains b = blankB b := by
  have h : ∀ n : Fin 256, ([32, 9, 13, 10] : List UInt8).contains (UInt8.ofNat n.val) = blankB (UInt8.ofNat n.val) := by decide
  have := h ⟨b.toNat, b.toNat_lt⟩
  simpa using this
theorem any_blank : ∀ l : List UInt8, Lib.containsAny l [32, 9, 13, 10] = l.any blankB
  | [] => rfl
  | b :: l => by
    have ih := any_blank l
    unfold Lib.containsAny at *
    rw [Lib.indexAny, blank_mem, List.any_cons]
    cases hb : blankB b with
    | true => rfl
    | false =>
      have hge := Lib.indexAny_ge [32, 9, 13, 10] l
      rw [Bool.false_or, ← ih]
      by_cases h1 : Lib.indexAny l [32, 9, 13, 10] = -1
      · rw [h1]; rfl
      · have h2 : (Lib.indexAny l [32, 9, 13, 10] == -1) = false := beq_eq_false_iff_ne.2 h1
        rw [h2]
        simp only [Bool.false_eq_true, ↓reduceIte]
        rw [decide_eq_decide]
        omega
theorem cost_mem {s : ByteArray} : ∀ {l : List ByteArray}, s ∈ l → s.size ≤ cost l
  | x :: l, h => by
    rw [cost]
    rcases List.mem_cons.1 h with rfl | h
    · omega
    · have := cost_mem h; omega
theorem hasAny_ascii (s : ByteArray) (hs : s.size ≤ 1000000) (ha : s.data.toList.all (fun b => decide (b.toNat < 128)) = true) : HasAny s := by
  intro w hg
  refine (Tryd.strings_ContainsAny_laid s ⟨#[32, 9, 13, 10]⟩ w (by omega) (by decide) (ascii_of_all ha) (ascii_of_all (by decide))).mono ?_
  rintro e w1 ⟨rfl, hb⟩
  exact ⟨by rw [any_blank]; rfl, hb⟩
theorem Wrap_range (A0 : Option Addr) (c0 n0 : Nat) (width : Int) (W : World) (h : width < 1 ∨ 255 < width) :
    Calls Tryd.prog 12 #[.slice A0 n0 c0, .int .i64 width] W fun e w' => e = .returned (.tuple #[.string ⟨#[]⟩, .int .i64 2]) ∧ Below W.heap.size W w' := by
  by_cases h1 : width < 1
  · have d1 : decide (width < 1) = true := decide_eq_true h1
    clear h h1
    go_enter Tryd.func12, Tryd.ntmps12
    go_wp2
    go_ret2
    exact ⟨rfl, Below.refl _ _⟩
  · have d1 : decide (width < 1) = false := decide_eq_false h1
    have d2 : decide (255 < width) = true := decide_eq_true (by omega)
    clear h h1
    go_enter Tryd.func12, Tryd.ntmps12
    go_wp2
    go_ret2
    exact ⟨rfl, Below.refl _ _⟩
theorem Wrap_calls (A0 : Option Addr) (c0 : Nat) (l0 : List ByteArray) (a1 : Int) (r1 : ByteArray) (r2 : Int) (w : World) (hr0 : Kd.C Kd.string w A0 l0.length l0) (hc0 : l0.length ≤ c0) (h : wrapF l0 a1 = some (r1, r2)) (hg : Laid w) :
    Calls Tryd.prog 12 #[.slice A0 l0.length c0, .int .i64 a1] w fun e w' => e = .returned (.tuple #[.string r1, .int .i64 r2]) ∧ Below w.heap.size w w' := by
  unfold wrapF at h
  split at h
  · rename_i ha
    obtain ⟨rfl, rfl⟩ := Prod.mk.inj (Option.some.inj h)
    exact Wrap_range A0 c0 l0.length a1 w ha
  · rename_i ha
    split at h
    · rename_i hb
      have h' := Option.some.inj h
      have h2 := Wrap_any A0 c0 l0 a1 w hr0 hg (fun s hs => hasAny_ascii s (Nat.le_trans (cost_mem hs) hb.1) (List.all_eq_true.1 hb.2 s hs)) (by omega) (by omega) hb.1 _ rfl
      rw [h'] at h2
      exact h2
    · cases h
end Go.Proofs.YtlpoglkddknedaaDoor.H

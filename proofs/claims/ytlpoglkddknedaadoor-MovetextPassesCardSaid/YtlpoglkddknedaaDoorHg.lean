/- number, variation, tag.Result: what they answer. Conditions: the tables of the program's and of the library's as their initialisers lay them (Laid). -/
import Derived.Test.YtlpoglkddknedaaDoorHm
import Derived.Test.YtlpoglkddknedaaDoorHs
import Derived.Shelf.Strings.SlTrimAscii
import Derived.WalkKit
import Derived.WalkSpells
import Derived.WalkLawsBesides
import Derived.WalkMore
import Derived.WalkSmall
import Derived.LoopN
import Derived.Lib.OthersKept
import Derived.Lib.Hide
namespace Go.Proofs.YtlpoglkddknedaaDoor.H
open Go.RowKit Go.Shelf Go.Proofs.YtlpoglkddknedaaDoor.T Go.Proofs.YtlpoglkddknedaaDoorW.PrintWords Go.Proofs.YtlpoglkddknedaaDoorW.PrintLast
set_option linter.unusedVariables false
set_option linter.unusedSimpArgs false

set_option maxRecDepth 10000
/-- The variables that the walks read hold what their initialisers lay. -/
structure Laid (w : World) : Prop where
  res : w.var? Tryd.prog "tempo/tag.results" = some #[.string ⟨#[42]⟩, .string ⟨#[49, 45, 48]⟩, .string ⟨#[48, 45, 49]⟩, .string ⟨#[49, 47, 50, 45, 49, 47, 50]⟩]
  pow : Lib.TabIs Tryd.prog w "internal/strconv.uint64pow10" .u64 Lib.pow10Tab
theorem g_res : Tryd.prog.globalNamed "tempo/tag.results" = some 0 := by kernel_rfl
theorem g_pow : Tryd.prog.globalNamed "internal/strconv.uint64pow10" = some 4 := by kernel_rfl
theorem var_lt {w : World} {n : String} {g : Nat} {cs : Array Value} (hg : Tryd.prog.globalNamed n = some g) (h : w.var? Tryd.prog n = some cs) : g < w.heap.size := by
  unfold World.var? at h
  rw [hg, Option.bind_some] at h
  by_cases hlt : g < w.heap.size
  · exact hlt
  · rw [Array.getElem?_eq_none (by omega)] at h
    cases h
theorem Laid.below {w w' : World} (h : Laid w) (hb : Below w.heap.size w w') : Laid w' :=
  ⟨var?_below hb g_res (var_lt g_res h.res) h.res, var?_below hb g_pow (var_lt g_pow h.pow) h.pow⟩
theorem Laid.cell {w : World} (h : Laid w) (i : Nat) : w.cell? ⟨0, i, none⟩ = (#[Value.string ⟨#[42]⟩, .string ⟨#[49, 45, 48]⟩, .string ⟨#[48, 45, 49]⟩, .string ⟨#[49, 47, 50, 45, 49, 47, 50]⟩])[i]? := World.var?_cell g_res h.res i

def digs : List UInt8 := [48, 49, 50, 51, 52, 53, 54, 55, 56, 57]
theorem digs_mem (b : UInt8) : digs.contains b = decide (48 ≤ b.toNat ∧ b.toNat ≤ 57) := by
  have h : ∀ n : Fin 256, digs.contains (UInt8.ofNat n.val) = decide (48 ≤ (UInt8.ofNat n.val).toNat ∧ (UInt8.ofNat n.val).toNat ≤ 57) := by decide
  have := h ⟨b.toNat, b.toNat_lt⟩
  simpa using this
theorem dropWhile_nil {p : UInt8 → Bool} : ∀ l : List UInt8, (l.dropWhile p).isEmpty = l.all p
  | [] => rfl
  | x :: l => by
    rw [List.dropWhile_cons, List.all_cons]
    cases h : p x with
    | true => simpa using dropWhile_nil l
    | false => simp
theorem all_dropWhile {p : UInt8 → Bool} : ∀ l : List UInt8, (l.dropWhile p).all p = l.all p
  | [] => rfl
  | x :: l => by
    rw [List.dropWhile_cons, List.all_cons]
    cases h : p x with
    | true => simpa using all_dropWhile l
    | false => simp [h]
theorem trim_digits (l : List UInt8) : (Lib.trimS l digs).isEmpty = l.all (fun b => decide (48 ≤ b.toNat ∧ b.toNat ≤ 57)) := by
  unfold Lib.trimS Lib.trimLeftS Lib.trimRightS
  rw [dropWhile_nil, List.all_reverse, all_dropWhile, List.all_reverse]
  congr 1
  funext b
  exact digs_mem b
theorem trim_any (s : ByteArray) (hs : s.size ≤ 9223372036854775807) (w : World) :
    Calls Tryd.prog 66 #[.string s, .string ⟨#[48, 49, 50, 51, 52, 53, 54, 55, 56, 57]⟩] w fun e w' => ∃ r : ByteArray, e = .returned (.string r) ∧ (r.toList == []) = s.data.toList.all (fun b => decide (48 ≤ b.toNat ∧ b.toNat ≤ 57)) ∧ Below w.heap.size w w' := by
  refine (Any.strings_Trim_laid Tryd.lays160 (by kernel_rfl) s ⟨#[48, 49, 50, 51, 52, 53, 54, 55, 56, 57]⟩ w (by omega) (by decide) (ascii_of_all (by decide))).mono ?_
  rintro e w1 ⟨rfl, hb⟩
  refine ⟨_, rfl, ?_, hb⟩
  rw [← trim_digits s.data.toList, Lib.toList_data]
  show (Lib.trimS s.data.toList digs == []) = _
  cases Lib.trimS s.data.toList digs <;> rfl

theorem number_any (s : ByteArray) (hs : s.size ≤ 9223372036854775807) (w : World) :
    Calls Tryd.prog 40 #[.string s] w fun e w' => e = .returned (.bool (numF s)) ∧ Below w.heap.size w w' := by
  unfold numF
  go_enter Tryd.func40, Tryd.ntmps40
  by_cases h0 : s.data.toList = []
  · have h0' : s.toList = [] := by rw [Lib.toList_data]; exact h0
    have e0 : (s.toList == []) = true := beq_iff_eq.2 h0'
    go_wp2
    go_ret
    exact ⟨by rw [h0]; rfl, Below.refl _ _⟩
  · have h0' : s.toList ≠ [] := by rw [Lib.toList_data]; exact h0
    have e0 : (s.toList == []) = false := beq_eq_false_iff_ne.2 h0'
    have e1 : s.data.toList.isEmpty = false := by cases h : s.data.toList with | nil => exact absurd h h0 | cons _ _ => rfl
    go_wp2_with (go_at_call 66; (with_reducible refine (trim_any s hs _).mono ?_); rintro e w1 ⟨r, rfl, hr, hb⟩)
    go_ret
    exact ⟨by rw [e1]; simp, hb⟩

theorem resTab (s : ByteArray) : resF s = if ([42] : List UInt8) = s.toList then 0 else if [49, 45, 48] = s.toList then 1 else if [48, 45, 49] = s.toList then 2 else if [49, 47, 50, 45, 49, 47, 50] = s.toList then 3 else -1 := by
  unfold resF
  simp only [eq_comm]
theorem tl0 : (⟨#[42]⟩ : ByteArray).toList = [42] := by rw [Lib.toList_data]
theorem tl1 : (⟨#[49, 45, 48]⟩ : ByteArray).toList = [49, 45, 48] := by rw [Lib.toList_data]
theorem tl2 : (⟨#[48, 45, 49]⟩ : ByteArray).toList = [48, 45, 49] := by rw [Lib.toList_data]
theorem tl3 : (⟨#[49, 47, 50, 45, 49, 47, 50]⟩ : ByteArray).toList = [49, 47, 50, 45, 49, 47, 50] := by rw [Lib.toList_data]

theorem run_index_arr {P : Program} {w : World} (t e : TypeId) (n : Nat) (cs : Array Value) (k : IntKind) (i : Int) (v : Value) (h : P.underlying t = some (.array n e)) (h0 : 0 ≤ i) (h1 : i < (n : Int)) (hv : cs[i.toNat]? = some v) (hs : ∀ w, (Go.sizeOf e).run P w = .ok 1 w) (ha : ∀ w, (Go.isAgg e).run P w = .ok false w) :
    (Instr.index t (.agg cs) (.int k i)).run P w = .ok v w := by
  simp [Instr.index, run_underlying h, asIntOf, h0, h1, hv, hs, ha, go_sem]
theorem idx0 {w : World} (a b c d : Value) : (Instr.index 109 (.agg #[a, b, c, d]) (.int .i64 0)).run Tryd.prog w = .ok a w := run_index_arr 109 9 4 _ _ _ _ Tryd.underlying109 (by decide) (by decide) rfl Tryd.sizeOf9 Tryd.isAgg9
theorem idx1 {w : World} (a b c d : Value) : (Instr.index 109 (.agg #[a, b, c, d]) (.int .i64 1)).run Tryd.prog w = .ok b w := run_index_arr 109 9 4 _ _ _ _ Tryd.underlying109 (by decide) (by decide) rfl Tryd.sizeOf9 Tryd.isAgg9
theorem idx2 {w : World} (a b c d : Value) : (Instr.index 109 (.agg #[a, b, c, d]) (.int .i64 2)).run Tryd.prog w = .ok c w := run_index_arr 109 9 4 _ _ _ _ Tryd.underlying109 (by decide) (by decide) rfl Tryd.sizeOf9 Tryd.isAgg9
theorem idx3 {w : World} (a b c d : Value) : (Instr.index 109 (.agg #[a, b, c, d]) (.int .i64 3)).run Tryd.prog w = .ok d w := run_index_arr 109 9 4 _ _ _ _ Tryd.underlying109 (by decide) (by decide) rfl Tryd.sizeOf9 Tryd.isAgg9
attribute [local go_sem] idx0 idx1 idx2 idx3
set_option maxHeartbeats 1000000 in
theorem result_any (s : ByteArray) (w : World) (hg : Laid w) :
    Calls Tryd.prog 41 #[.string s] w fun e w' => e = .returned (.tuple #[.int .i64 (if 0 ≤ resF s then resF s else 0), .int .i64 (if 0 ≤ resF s then 0 else 8)]) ∧ Drawn0 w w' := by
  have h0 := (hg.cell 0).trans (show _ = some (.string ⟨#[42]⟩) from rfl)
  have h1 := (hg.cell 1).trans (show _ = some (.string ⟨#[49, 45, 48]⟩) from rfl)
  have h2 := (hg.cell 2).trans (show _ = some (.string ⟨#[48, 45, 49]⟩) from rfl)
  have h3 := (hg.cell 3).trans (show _ = some (.string ⟨#[49, 47, 50, 45, 49, 47, 50]⟩) from rfl)
  clear hg
  have hr0 := resTab s
  generalize resF s = r at *
  go_enter Tryd.func41, Tryd.ntmps41
  go_wp2
  refine wp_loop_rounds 5 ?_
  rw [rounds_succ]
  by_cases c0 : ([42] : List UInt8) = s.toList
  · have d0 : (([42] : List UInt8) == s.toList) = true := beq_iff_eq.2 c0
    rw [if_pos c0] at hr0
    clear c0
    go_wp2
    subst hr0
    go_ret2
    exact ⟨rfl, Drawn0.refl _⟩
  · have d0 : (([42] : List UInt8) == s.toList) = false := beq_eq_false_iff_ne.2 c0
    rw [if_neg c0] at hr0
    clear c0
    go_wp2
    rw [rounds_succ]
    by_cases c0 : ([49, 45, 48] : List UInt8) = s.toList
    · have d0 : (([49, 45, 48] : List UInt8) == s.toList) = true := beq_iff_eq.2 c0
      rw [if_pos c0] at hr0
      clear c0
      go_wp2
      subst hr0
      go_ret2
      exact ⟨rfl, Drawn0.refl _⟩
    · have d1 : (([49, 45, 48] : List UInt8) == s.toList) = false := beq_eq_false_iff_ne.2 c0
      rw [if_neg c0] at hr0
      clear c0
      go_wp2
      rw [rounds_succ]
      by_cases c0 : ([48, 45, 49] : List UInt8) = s.toList
      · have d0 : (([48, 45, 49] : List UInt8) == s.toList) = true := beq_iff_eq.2 c0
        rw [if_pos c0] at hr0
        clear c0
        go_wp2
        subst hr0
        go_ret2
        exact ⟨rfl, Drawn0.refl _⟩
      · have d2 : (([48, 45, 49] : List UInt8) == s.toList) = false := beq_eq_false_iff_ne.2 c0
        rw [if_neg c0] at hr0
        clear c0
        go_wp2
        rw [rounds_succ]
        by_cases c0 : ([49, 47, 50, 45, 49, 47, 50] : List UInt8) = s.toList
        · have d0 : (([49, 47, 50, 45, 49, 47, 50] : List UInt8) == s.toList) = true := beq_iff_eq.2 c0
          rw [if_pos c0] at hr0
          clear c0
          go_wp2
          subst hr0
          go_ret2
          exact ⟨rfl, Drawn0.refl _⟩
        · have d3 : (([49, 47, 50, 45, 49, 47, 50] : List UInt8) == s.toList) = false := beq_eq_false_iff_ne.2 c0
          rw [if_neg c0] at hr0
          clear c0
          go_wp2
          rw [rounds_succ]
          go_wp2
          subst hr0
          go_ret2
          exact ⟨rfl, Drawn0.refl _⟩

end Go.Proofs.YtlpoglkddknedaaDoor.H

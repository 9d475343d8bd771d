/- letters and printable, as plain functions tell them. Conditions: at most 65536 letters are asked for, the set isn't empty. -/
import Derived.Test.YtlpoglkddknedaaGreatDoorTx0
import Derived.Test.YtlpoglkddknedaaGreatDoorHb
import Derived.Lib.BufferRead
import Derived.Laws.MakeOwn
namespace Go.Proofs.YtlpoglkddknedaaGreatDoor.H
open Go.RowKit Go.Lib Go.Proofs.YtlpoglkddknedaaGreatDoorW.PrintWords
set_option linter.unusedVariables false
set_option linter.unusedSimpArgs false

/-- printable ASCII -/
def printL (n : Nat) : List UInt8 := (List.range n).map fun i => (32 + i).toUInt8
def printableS : ByteArray := ⟨(printL 95).toArray⟩

/-- make([]byte, 0, n) -/
theorem make_bytes (n : Nat) (N : Int) (hN : N = n) (hn : n ≤ 65536) (w : World) : ∃ W', (Instr.makeSlice 42 (.int .i64 0) (.int .i64 N)).run Tryz.prog w = .ok (.slice (some ⟨w.heap.size, 0, none⟩) 0 n) W' ∧ W'.ownsRow w.heap.size 5 1 (.slice (some ⟨w.heap.size, 0, none⟩) 0 n) 0 (byteCells []) ∧ Below w.heap.size w W' ∧ W'.heap.size = w.heap.size + 1 := by
  subst hN
  obtain ⟨i0, hi, hz0, hz1, hz2⟩ := info_parts info5
  have hb : (i0.bytes : Int) * (n : Int) ≤ 281474976710656 := by rw [hz2]; omega
  have hr := run_make (P := Tryz.prog) w 42 5 i0 (.int .u8 0) Tryz.underlying42 hi hz0 .i64 .i64 0 n (by omega) (by omega) hb (by omega)
  refine ⟨_, hr, ⟨rfl, .inr ⟨w.heap.size, n, _, by simp, Nat.le_refl _, heap_alloc_new w _, Nat.zero_le _, by simp only [maxLen]; omega, ?_, rfl⟩⟩, (Below.refl _ w).alloc (Nat.le_refl _) _, by simp⟩
  rw [hz1]
  simp [madeCells, Value.cells]

/-- string(b), b a row of the call's own -/
theorem own_string {W : World} {B : Nat} {v : Value} {l : List UInt8} (h : W.ownsRow B 5 1 v l.length (byteCells l)) : (convert 42 9 v).run Tryz.prog W = .ok (.string ⟨l.toArray⟩) W := by
  rcases h.2 with ⟨rfl, h0⟩ | ⟨g, cap, cur, rfl, _, hg, _, _, _, ht⟩
  · obtain rfl : l = [] := List.eq_nil_of_length_eq_zero h0
    exact run_convert_nil_bytes W 42 9 5 0 Tryz.underlying42 Tryz.underlying5 Tryz.underlying9
  · exact run_convert_bytes_back W 42 9 5 ⟨g, 0, none⟩ cap l Tryz.underlying42 Tryz.underlying5 Tryz.underlying9 (bytes_of_row hg (by rw [Nat.mul_one] at ht; exact ht))

set_option maxHeartbeats 1000000 in
theorem printable_calls (w : World) : Calls Tryz.prog 27 #[] w fun e w' => e = .returned (.string printableS) ∧ Below w.heap.size w w' := by
  obtain ⟨w1, hmk, hown, hB, hsz⟩ := make_bytes 95 95 rfl (by omega) w
  have HOWN := Lib.hid hown
  have HB := Lib.hid hB
  clear hown hB hsz
  obtain ⟨i0, hi, hz0, hz1, hz2⟩ := info_parts info5
  have HI := Lib.hid hi
  have HZ0 := Lib.hid hz0
  have HZ1 := Lib.hid hz1
  have HZ2 := Lib.hid hz2
  clear hi hz0 hz1 hz2
  go_enter Tryz.func27, Tryz.ntmps27
  go_wp2_with fail
  go_loopw [1, 2] (fun v c wr => ∃ n : Nat, n ≤ 95 ∧ c = .int .u8 (32 + n : Int) ∧ wr.ownsRow w.heap.size 5 1 v (printL n).length (byteCells (printL n)) ∧ Below w.heap.size w wr) (fun _ c _ => 127 - (Go.RowKit.intOf c).toNat)
  case atStart => exact ⟨0, by omega, rfl, HOWN.out, HB.out⟩
  case round =>
    clear hmk
    obtain ⟨n, hn, rfl, hown, hb⟩ := hrel
    have HOWN := Lib.hid hown
    have HB := Lib.hid hb
    clear hown hb
    have hln : (printL n).length = n := by simp [printL]
    have HLN := Lib.hid hln
    clear hln
    by_cases hlt : n < 95
    · have a1 : (32 : Int) + n < 127 := by omega
      go_wp2_with (at_builtin; refine wpList_append_own_at _ rfl (.tmp 8) (.tmp 10) 42 rfl w.heap.size 5 i0 (.int .u8 0) 1 1 Tryz.underlying42 HI.out HZ0.out HZ1.out HZ2.out rfl (by decide) _ _ _ rfl (HOWN.out.alloc _) ⟨wr.heap.size, 0, none⟩ 1 1 [.int .u8 (32 + n : Int)] rfl rfl ?c1 ?c2 ?c3 ?c4 ?c5 ?_)
      case c1 =>
        intro j u hj
        match j, hj with
        | 0, hj => simp at hj; subst hj; simp [Addr.add]
      case c2 => intro u hu; simp at hu; subst hu; rfl
      case c3 => have := HLN.out; unfold maxLen; omega
      case c4 => have := HLN.out; omega
      case c5 => have := HB.out.size; simp; omega
      intro v' w2 hown' hgrow _ hat
      have HOWN2 := Lib.hid (show w2.ownsRow w.heap.size 5 1 v' (printL (n + 1)).length (byteCells (printL (n + 1))) by
        have h := hown'
        have e1 : (32 + n : Int) = ((32 + n).toUInt8.toNat : Int) := by
          have : (32 + n).toUInt8.toNat = 32 + n := by simp; omega
          rw [this]; omega
        rw [e1, byteCells_snoc] at h
        have e2 : printL (n + 1) = printL n ++ [(32 + n).toUInt8] := by simp [printL, List.range_succ]
        rw [e2, List.length_append]
        exact h)
      have HB2 := Lib.hid ((HB.out.alloc HB.out.size _).grown hgrow (by have := HB.out.size; simp; omega) (fun k hk => (HOWN.out.lt k hk).1))
      clear hown' hgrow hat
      go_wp2
      go_roundw
      case rel => exact ⟨n + 1, by omega, by go_num, HOWN2.out, HB2.out⟩
      case measure => simp [Go.RowKit.intOf]; omega
    · obtain rfl : n = 95 := by omega
      have hcv := own_string HOWN.out
      go_wp2
      go_ret
      exact ⟨rfl, HB.out⟩

def letterOf (set : ByteArray) (c : Int) : UInt8 := set.data.toList.getD (c.toNat % set.size) 0
def lettersL (set : ByteArray) (l : List Int) : List UInt8 := l.map (letterOf set)
theorem letter_at (set : ByteArray) (y : Int) (h0 : 0 ≤ y) (hq : (y % (set.size : Int)).toNat < set.size) : set[(y % (set.size : Int)).toNat] = letterOf set y := by
  obtain ⟨n, rfl⟩ := Int.eq_ofNat_of_zero_le h0
  have e : ((n : Int) % (set.size : Int)).toNat = n % set.size := by rw [← Int.natCast_emod, Int.toNat_natCast]
  have hq' : n % set.size < set.size := by rw [← e]; exact hq
  simp only [e]
  unfold letterOf
  rw [Int.toNat_natCast, List.getD_eq_getElem?_getD, List.getElem?_eq_getElem (by simpa using hq')]
  rfl
theorem take_getD (l : List Int) (k : Nat) (h : k < l.length) : l.take (k + 1) = l.take k ++ [l.getD k 0] := by
  rw [List.take_succ_eq_append_getElem h, List.getD_eq_getElem?_getD, List.getElem?_eq_getElem h]
  rfl
def lettersF (l0 : List Int) (a1 : ByteArray) (a2 : Int) : Option ByteArray :=
  if 0 ≤ a2 ∧ a2 ≤ 65536 ∧ 0 < a1.size ∧ a1.size ≤ 140737488351232 ∧ l0.length ≤ 140737488355328 ∧ (l0.all fun c => decide (0 ≤ c ∧ c ≤ 255)) = true then some ⟨(lettersL a1 (l0.take a2.toNat)).toArray⟩ else none

set_option maxHeartbeats 2000000 in
theorem letters_calls (A0 : Option Addr) (c0 : Nat) (l0 : List Int) (a1 : ByteArray) (a2 : Int) (r : ByteArray) (w : World) (hr0 : Kd.C (Kd.int .u8) w A0 l0.length l0) (hc0 : l0.length ≤ c0) (h : lettersF l0 a1 a2 = some r) :
    Calls Tryz.prog 26 #[.slice A0 l0.length c0, .string a1, .int .i64 a2] w fun e w' => e = .returned (.string r) ∧ Below w.heap.size w w' := by
  unfold lettersF at h
  split at h
  · rename_i hh
    obtain ⟨h0, h1, h2, h3, h4, h5⟩ := hh
    have HR := Lib.hid (Option.some.inj h)
    have HC := Lib.hid hr0
    have HA := Lib.hid (List.all_eq_true.1 h5)
    clear h hr0 h5
    obtain ⟨n, rfl⟩ := Int.eq_ofNat_of_zero_le h0
    obtain ⟨w1, hmk, hown, hB, hsz⟩ := make_bytes n n rfl (by omega) w
    have HOWN := Lib.hid hown
    have HB := Lib.hid hB
    clear hown hB hsz
    obtain ⟨i0, hi, hz0, hz1, hz2⟩ := info_parts info5
    have HI := Lib.hid hi
    have HZ0 := Lib.hid hz0
    have HZ1 := Lib.hid hz1
    have HZ2 := Lib.hid hz2
    clear hi hz0 hz1 hz2
    obtain ⟨m, hmin, hm1, hm2, hm3⟩ : ∃ m : Nat, min (l0.length : Int) n = m ∧ m ≤ l0.length ∧ m ≤ n ∧ l0.take n = l0.take m := by
      by_cases hmn : l0.length ≤ n
      · exact ⟨l0.length, by omega, Nat.le_refl _, hmn, by rw [List.take_of_length_le hmn, List.take_of_length_le (Nat.le_refl _)]⟩
      · exact ⟨n, by omega, by omega, Nat.le_refl _, rfl⟩
    have HM3 := Lib.hid hm3
    clear hm3
    rw [Int.toNat_natCast] at HR
    go_enter Tryz.func26, Tryz.ntmps26
    go_wp2_with fail
    clear hmk
    go_loopw [7, 19] (fun v i wr => ∃ k : Nat, k ≤ m ∧ i = .int .i64 k ∧ wr.ownsRow w.heap.size 5 1 v (lettersL a1 (l0.take k)).length (byteCells (lettersL a1 (l0.take k))) ∧ Below w.heap.size w wr) (fun _ i _ => m - (Go.RowKit.intOf i).toNat)
    case atStart => exact ⟨0, Nat.zero_le _, rfl, HOWN.out, HB.out⟩
    case round =>
      obtain ⟨k, hk, rfl, hown, hb⟩ := hrel
      have HOWN := Lib.hid hown
      have HB := Lib.hid hb
      have HLL := Lib.hid (show (lettersL a1 (l0.take k)).length ≤ 65536 by simp [lettersL]; omega)
      clear hown hb
      by_cases hlt : k < m
      · obtain ⟨ad, c, rfl, hcl, hK, hcell⟩ := Kd.C_get (Kd.C_below HC.out HB.out) 0 (k : Int) (by omega) (by omega)
        obtain rfl : c = [.int .u8 (l0.getD k 0)] := hK
        have hx : wr.cell? (ad.add k) = some (.int .u8 (l0.getD k 0)) := by
          have h := hcell 0 _ rfl
          rw [Int.toNat_natCast] at h
          simpa [Kd.int, Kd.scalar] using h
        have HTK := Lib.hid (take_getD l0 k (by omega))
        have hmem : l0.getD k 0 ∈ l0 := by
          rw [List.getD_eq_getElem?_getD, List.getElem?_eq_getElem (by omega)]
          exact List.getElem_mem _
        have hyb := HA.out _ hmem
        simp only [decide_eq_true_eq] at hyb
        obtain ⟨y, hy⟩ : ∃ y, l0.getD k 0 = y := ⟨_, rfl⟩
        rw [hy] at hx hyb HTK
        clear hcell hmem hcl
        obtain ⟨hy0, hy1⟩ := hyb
        clear hy
        have h5 := Int.emod_lt_of_pos y (show (0 : Int) < a1.size by omega)
        have h6 := Int.emod_nonneg y (show (a1.size : Int) ≠ 0 by omega)
        have hq : (y % (a1.size : Int)).toNat < a1.size := by omega
        have HLE := Lib.hid (letter_at a1 y hy0 hq)
        go_wp2_with (at_builtin; refine wpList_append_own_at _ rfl (.tmp 23) (.tmp 31) 42 rfl w.heap.size 5 i0 (.int .u8 0) 1 1 Tryz.underlying42 HI.out HZ0.out HZ1.out HZ2.out rfl (by decide) _ _ _ rfl (HOWN.out.alloc _) ⟨wr.heap.size, 0, none⟩ 1 1 [.int .u8 (letterOf a1 y).toNat] rfl rfl ?c1 ?c2 ?c3 ?c4 ?c5 ?_)
        case c1 =>
          intro j u hj
          match j, hj with
          | 0, hj => simp at hj; subst hj; rw [← HLE.out]; simp [Addr.add]
        case c2 => intro u hu; simp at hu; subst hu; rfl
        case c3 => have := HLL.out; unfold maxLen; omega
        case c4 => have := HLL.out; omega
        case c5 => have := HB.out.size; simp; omega
        intro v' w2 hown' hgrow _ hat
        have HOWN2 := Lib.hid (show w2.ownsRow w.heap.size 5 1 v' (lettersL a1 (l0.take (k + 1))).length (byteCells (lettersL a1 (l0.take (k + 1)))) by
          have h := hown'
          rw [byteCells_snoc] at h
          have e2 : lettersL a1 (l0.take (k + 1)) = lettersL a1 (l0.take k) ++ [letterOf a1 y] := by rw [HTK.out]; simp [lettersL]
          rw [e2, List.length_append]
          exact h)
        have HB2 := Lib.hid ((HB.out.alloc HB.out.size _).grown hgrow (by have := HB.out.size; simp; omega) (fun k hk => (HOWN.out.lt k hk).1))
        clear hown' hgrow hat
        go_wp2
        go_roundw
        case rel => exact ⟨k + 1, by omega, by go_num, HOWN2.out, HB2.out⟩
        case measure => simp [Go.RowKit.intOf]; omega
      · obtain rfl : k = m := by omega
        have hcv := own_string HOWN.out
        go_wp2
        go_ret
        rw [← HR.out, HM3.out]
        exact ⟨rfl, HB.out⟩
  · cases h
end Go.Proofs.YtlpoglkddknedaaGreatDoor.H

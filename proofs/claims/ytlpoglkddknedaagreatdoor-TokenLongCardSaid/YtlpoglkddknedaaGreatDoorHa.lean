/- token.cutLeft at a set of ASCII bytes: it returns what stands behind the longest begin whose bytes are all in the set. No other condition. -/
import Derived.Test.YtlpoglkddknedaaGreatDoorHs
import Derived.WalkKit
import Derived.WalkSpells
import Derived.WalkLawsBesides
import Derived.Lib.OthersKept
import Derived.Lib.Hide
namespace Go.Proofs.YtlpoglkddknedaaGreatDoor.H
open Go.RowKit Go.Lib
set_option linter.unusedVariables false
set_option linter.unusedSimpArgs false

/-- How many bytes at the begin of s are in the set. -/
def spnL (p : UInt8 → Bool) (l : List UInt8) : Nat := (l.takeWhile p).length
def inS (set : ByteArray) (b : UInt8) : Bool := set.data.toList.contains b
def spn (s set : ByteArray) : Nat := spnL (inS set) s.data.toList
/-- is there a byte of this number -/
def memU (l : List UInt8) (c : Nat) : Bool := l.any fun b => b.toNat == c

theorem spnL_of (p : UInt8 → Bool) : ∀ (l : List UInt8) (n : Nat), n ≤ l.length → (∀ j (h : j < l.length), j < n → p l[j] = true) → (∀ h : n < l.length, p l[n] = false) → spnL p l = n := by
  intro l
  induction l with
  | nil => intro n h _ _; simp at h; simp [spnL, h]
  | cons x r ih =>
    intro n hn h1 h2
    cases n with
    | zero =>
      have h3 := h2 (by simp)
      simp at h3
      simp [spnL, h3]
    | succ n =>
      have h3 := h1 0 (by simp) (by omega)
      simp at h3
      have h4 := ih n (by simpa using hn) (fun j h hj => by have := h1 (j + 1) (by simpa using h) (by omega); simpa using this) (fun h => by have := h2 (by simpa using h); simpa using this)
      simp only [spnL] at h4
      simp [spnL, h3, h4]

theorem spn_of (s set : ByteArray) (n : Nat) (hn : n ≤ s.size) (h1 : ∀ j (h : j < s.size), j < n → inS set s[j] = true) (h2 : ∀ h : n < s.size, inS set s[n] = false) : spn s set = n := by
  refine spnL_of _ _ n (by simpa using hn) (fun j h hj => ?_) (fun h => ?_)
  · rw [Array.getElem_toList]; exact h1 j (by simpa using h) hj
  · rw [Array.getElem_toList]; exact h2 (by simpa using h)

theorem memU_byte (l : List UInt8) (b : UInt8) : memU l b.toNat = l.contains b := by
  unfold memU
  rw [Bool.eq_iff_iff]
  simp [List.any_eq_true, UInt8.toNat_inj]

theorem memU_high (l : List UInt8) (hl : ∀ b ∈ l, b.toNat < 128) (c : Nat) (hc : 128 ≤ c) : memU l c = false := by
  unfold memU
  rw [Bool.eq_false_iff]
  intro h
  rw [List.any_eq_true] at h
  obtain ⟨b, hb, he⟩ := h
  have := hl b hb
  simp at he
  omega

theorem inS_high (set : ByteArray) (hl : ∀ b ∈ set.data.toList, b.toNat < 128) (b : UInt8) (hb : 128 ≤ b.toNat) : inS set b = false := by
  unfold inS
  rw [← memU_byte]
  exact memU_high _ hl _ hb

theorem memU_snoc (s : ByteArray) (q : Nat) (h : q < s.size) (c : Nat) : memU (s.data.toList.take (q + 1)) c = (memU (s.data.toList.take q) c || (s[q].toNat == c)) := by
  unfold memU
  rw [List.take_succ_eq_append_getElem (by simpa using h), List.any_append]
  simp
  rfl

/-- what the decoded rune tells of the byte -/
theorem decoded (s set : ByteArray) (hl : ∀ b ∈ set.data.toList, b.toNat < 128) (p : Nat) (h : p < s.size) :
    memU set.data.toList (Utf8.decode s p).1 = inS set s[p] ∧ (inS set s[p] = true → (Utf8.decode s p).2 = 1) := by
  by_cases ha : s[p].toNat < 128
  · rw [decode_ascii s p h ha]
    exact ⟨memU_byte _ _, fun _ => rfl⟩
  · have hd := decode_high s p h (by omega)
    rw [memU_high _ hl _ hd.1, inS_high set hl _ (by omega)]
    exact ⟨rfl, fun h => by cases h⟩


theorem span_more {s set : ByteArray} {p : Nat} {hlt : p < s.size} (h : ∀ j (h : j < s.size), j < p → inS set s[j] = true) (h1 : inS set s[p] = true) : ∀ j (h : j < s.size), j < p + 1 → inS set s[j] = true := by
  intro j hj hlt
  by_cases e : j < p
  · exact h j hj e
  · obtain rfl : j = p := by omega
    exact h1

theorem cast_beq (c n : Nat) : ((c : Int) == (n : Int)) = (n == c) := by
  rw [Bool.eq_iff_iff]; simp only [beq_iff_eq]; omega

theorem iterPos_of {w : World} {k : Nat} {s : ByteArray} {p : Nat} (h : w.heap[k]? = some (.stringIter s p)) : w.iterPos k = p := by simp [World.iterPos, h]

theorem mem_byte (s : ByteArray) (q : Nat) (h : q < s.size) : s[q] ∈ s.data.toList := by
  show s.data[q] ∈ s.data.toList
  simp

set_option maxHeartbeats 1000000 in
theorem cutLeft_any (s set : ByteArray) (hs : s.size ≤ 140737488355328) (hss : set.size ≤ 140737488355328) (hl : ∀ b ∈ set.data.toList, b.toNat < 128) (w : World) :
    Calls Tryz.prog 42 #[.string s, .string set] w fun e w' => e = .returned (.string (s.extract (spn s set) s.size)) ∧ Below w.heap.size w w' := by
  have HL := Lib.hid hl
  clear hl
  go_enter Tryz.func42, Tryz.ntmps42
  go_wp2
  have HB0 : Below w.heap.size w (w.iter s 0) := (Below.refl _ w).alloc (Nat.le_refl _) _
  go_loopw [7] (fun v7 wr => ∃ (p : Nat), p ≤ s.size ∧ Hid (∀ j (h : j < s.size), j < p → inS set s[j] = true) ∧ wr.heap[w.heap.size]? = some (.stringIter s p) ∧ Below w.heap.size w wr)
    (fun _ wr => s.size - wr.iterPos w.heap.size)
  case atStart => exact ⟨0, Nat.zero_le _, Lib.hid (fun j _ h => by omega), World.iter_heap w s 0, HB0⟩
  case round =>
    obtain ⟨p, hp, HP, hk, hB⟩ := hrel
    clear HB0
    by_cases hlt : p < s.size
    · obtain ⟨W1, hW1⟩ : ∃ W1, wr.iterAt w.heap.size s (p + (Utf8.decode s p).2) = W1 := ⟨_, rfl⟩
      have hnx : ∀ ty, (Instr.next (.pointer (some ⟨w.heap.size, 0, none⟩)) true ty).run Tryz.prog wr = .ok (.tuple #[.bool true, .int .i64 p, .int .i32 (Utf8.decode s p).1]) W1 := fun ty => by
        rw [← hW1]; exact run_next_any_at wr w.heap.size s p ty hk hlt
      have hk1 : W1.heap[w.heap.size]? = some (.stringIter s (p + (Utf8.decode s p).2)) := by rw [← hW1]; exact iterAt_heap _ _ _ _ _ hk
      have hB1 : Below w.heap.size w W1 := by rw [← hW1]; exact below_iterAt hB (Nat.le_refl _) _ _
      clear hW1
      generalize hc : (Utf8.decode s p).1 = c at *
      generalize hd : (Utf8.decode s p).2 = d at *
      have HD := Lib.hid (decoded s set HL.out p hlt)
      rw [hc, hd] at HD
      clear hc hd
      have hk1' := Lib.hid hk1
      have HK0 := Lib.hid hk
      clear hk hk1
      go_wp2
      have HB2 : Below w.heap.size w (W1.iter set 0) := hB1.alloc hB1.size _
      have hsz : w.heap.size < W1.heap.size := (Array.getElem?_eq_some_iff.1 hk1'.out).1
      go_loopw [7] (fun v7 wi => ∃ (q : Nat), q ≤ set.size ∧ v7 = .bool (memU (set.data.toList.take q) c) ∧ wi.heap[W1.heap.size]? = some (.stringIter set q) ∧ Below W1.heap.size W1 wi)
        (fun _ wi => set.size - wi.iterPos W1.heap.size)
      case atStart => exact ⟨0, Nat.zero_le _, by simp [memU], World.iter_heap W1 set 0, (Below.refl _ W1).alloc (Nat.le_refl _) _⟩
      case round =>
        clear hnx hB HB2
        obtain ⟨q, hq, rfl, hkq, hBq⟩ := hrel
        have HBq := Lib.hid hBq
        have HKq := Lib.hid hkq
        clear hBq
        by_cases hltq : q < set.size
        · obtain ⟨W2, hW2⟩ : ∃ W2, wr.iterAt W1.heap.size set (q + 1) = W2 := ⟨_, rfl⟩
          have hnx : ∀ ty, (Instr.next (.pointer (some ⟨W1.heap.size, 0, none⟩)) true ty).run Tryz.prog wr = .ok (.tuple #[.bool true, .int .i64 q, .int .i32 (set[q]'hltq).toNat]) W2 := fun ty => by
            rw [← hW2]; exact run_next_ascii_at wr W1.heap.size set q ty hkq hltq (HL.out _ (mem_byte set q hltq))
          have HK2 := Lib.hid (show W2.heap[W1.heap.size]? = some (.stringIter set (q + 1)) by rw [← hW2]; exact iterAt_heap _ _ _ _ _ hkq)
          have HB2 := Lib.hid (show Below W1.heap.size W1 W2 by rw [← hW2]; exact below_iterAt HBq.out (Nat.le_refl _) _ _)
          have HM := Lib.hid (memU_snoc set q hltq c)
          clear hW2 hkq
          cases hm : memU (set.data.toList.take q) c
          · go_wp2
            go_roundw
            case rel => exact ⟨q + 1, by omega, by rw [HM.out, hm]; simp only [Bool.false_or]; exact congrArg Value.bool (cast_beq _ _), HK2.out, HB2.out⟩
            case measure => rw [iterPos_of HK2.out, iterPos_of HKq.out]; omega
          · go_wp2
            go_roundw
            case rel => exact ⟨q + 1, by omega, by rw [HM.out, hm]; simp, HK2.out, HB2.out⟩
            case measure => rw [iterPos_of HK2.out, iterPos_of HKq.out]; omega
        · have hnx : ∀ ty, (Instr.next (.pointer (some ⟨W1.heap.size, 0, none⟩)) true ty).run Tryz.prog wr = .ok (.tuple #[.bool false]) wr := fun ty => run_next_end_at wr W1.heap.size set q ty hkq hltq
          clear hkq
          obtain rfl : q = set.size := by omega
          have HT := Lib.hid (show set.data.toList.take set.size = set.data.toList from List.take_of_length_le (by simp))
          rw [HT.out]
          cases hm : memU set.data.toList c
          · go_wp2
            go_ret
            have h1 := HD.out.1
            rw [hm] at h1
            rw [spn_of s set p hp HP.out (fun _ => h1.symm)]
            exact ⟨rfl, hB1.trans (HBq.out.mono hB1.size)⟩
          · go_wp2
            go_roundw
            case rel =>
              have h1 := HD.out.1
              rw [hm] at h1
              have h2 := HD.out.2 h1.symm
              subst h2
              exact ⟨p + 1, by omega, Lib.hid (span_more HP.out h1.symm), (HBq.out.block _ hsz).trans hk1'.out, hB1.trans (HBq.out.mono hB1.size)⟩
            case measure =>
              have h1 := HD.out.1
              rw [hm] at h1
              have h2 := HD.out.2 h1.symm
              subst h2
              rw [iterPos_of ((HBq.out.block _ hsz).trans hk1'.out), iterPos_of HK0.out]
              omega
    · have hnx : ∀ ty, (Instr.next (.pointer (some ⟨w.heap.size, 0, none⟩)) true ty).run Tryz.prog wr = .ok (.tuple #[.bool false]) wr := fun ty => run_next_end_at wr w.heap.size s p ty hk hlt
      go_wp2
      go_ret
      obtain rfl : p = s.size := by omega
      rw [spn_of s set s.size (Nat.le_refl _) (fun j h hj => HP.out j h hj) (fun h => absurd h (by omega))]
      exact ⟨by simp; rfl, hB⟩

end Go.Proofs.YtlpoglkddknedaaGreatDoor.H

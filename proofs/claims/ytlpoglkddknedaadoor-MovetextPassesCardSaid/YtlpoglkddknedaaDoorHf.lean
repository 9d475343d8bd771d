/- strings.ContainsAny of whatever string and the blanks. Condition: the string is shorter than 4294967281 bytes. -/
import Derived.Test.YtlpoglkddknedaaDoorHa
import Derived.Test.YtlpoglkddknedaaDoorHu
import Derived.Test.YtlpoglkddknedaaDoorHs2
import Derived.Laws.Runes
import Derived.Lib.SpaceUEq
import Derived.LoopN
import Derived.Deep.QuietTactic
import Derived.BigQuiet
namespace Go.Proofs.YtlpoglkddknedaaDoor.H
open Go.RowKit Go.Lib Go.Shelf Go.Proofs.YtlpoglkddknedaaDoorW.PrintWords
set_option linter.unusedVariables false
set_option linter.unusedSimpArgs false

abbrev bl : ByteArray := ⟨#[32, 9, 13, 10]⟩

theorem validRune_any (r : Int) (h0 : 128 ≤ r) (w : World) : Calls Tryd.prog 110 #[.int .i32 r] w fun e w' => e = .returned (.bool (Utf8.valid r)) ∧ Drawn0 w w' := by
  have c0 : decide (0 ≤ r) = true := decide_eq_true (by omega)
  by_cases c1 : r < 55296
  · have d1 : decide (r < 55296) = true := decide_eq_true c1
    have hv : Utf8.valid r = true := by unfold Utf8.valid; simp; omega
    rw [hv]
    go_enter Tryd.func110, Tryd.ntmps110
    go_wp2
    go_ret
    exact ⟨rfl, Drawn0.refl _⟩
  · have d1 : decide (r < 55296) = false := decide_eq_false c1
    by_cases c2 : 57343 < r
    · have d2 : decide (57343 < r) = true := decide_eq_true c2
      by_cases c3 : r ≤ 1114111
      · have d3 : decide (r ≤ 1114111) = true := decide_eq_true c3
        have hv : Utf8.valid r = true := by unfold Utf8.valid; simp; omega
        rw [hv]
        go_enter Tryd.func110, Tryd.ntmps110
        go_wp2
        go_ret
        exact ⟨rfl, Drawn0.refl _⟩
      · have d3 : decide (r ≤ 1114111) = false := decide_eq_false c3
        have hv : Utf8.valid r = false := by unfold Utf8.valid; simp; omega
        rw [hv]
        go_enter Tryd.func110, Tryd.ntmps110
        go_wp2
        go_ret
        exact ⟨rfl, Drawn0.refl _⟩
    · have d2 : decide (57343 < r) = false := decide_eq_false c2
      have hv : Utf8.valid r = false := by unfold Utf8.valid; simp; omega
      rw [hv]
      go_enter Tryd.func110, Tryd.ntmps110
      go_wp2
      go_ret
      exact ⟨rfl, Drawn0.refl _⟩

theorem below_drewN0 {w : World} (n : Nat) : Below w.heap.size w (w.drewN n) := ⟨rfl, rfl, rfl, Nat.le_refl _, fun _ _ => rfl⟩
theorem bl_byte (p : Nat) (h : p < bl.size) : (bl[p]'h).toNat < 128 := by
  have hall : ∀ q : Fin 4, (bl.data[q.val]'q.isLt).toNat < 128 := by decide
  exact hall ⟨p, h⟩

theorem indexByte_none (z : ByteArray) (hz : z.data.toList.all (fun b => decide (b.toNat < 128)) = true) (y : Nat) (h1 : 128 ≤ y) (h2 : y < 256) (w : World) : Calls Tryd.prog 109 #[.string z, .int .u8 (y : Int)] w fun e w' => e = .returned (.int .i64 (-1)) ∧ w' = w := by
  refine (Tryd.strings_IndexByte z (y : Int) w).mono ?_
  rintro e w' ⟨rfl, rfl⟩
  refine ⟨?_, rfl⟩
  have hyb : ((y : Int).toNat.toUInt8).toNat = y := by rw [Int.toNat_natCast, Nat.toUInt8, UInt8.toNat_ofNat']; omega
  have key : ∀ l : List UInt8, l.all (fun b => decide (b.toNat < 128)) = true → Lib.indexByte l ((y : Int).toNat.toUInt8) = -1 := by
    intro l
    induction l with
    | nil => intro _; rfl
    | cons b l ih =>
      intro h
      rw [List.all_cons, Bool.and_eq_true] at h
      have hb : b.toNat < 128 := of_decide_eq_true h.1
      have hne : (b == (y : Int).toNat.toUInt8) = false := beq_eq_false_iff_ne.2 (fun e => by rw [e, hyb] at hb; omega)
      rw [Lib.indexByte, hne, ih h.2]
      rfl
  rw [key _ hz]

set_option maxHeartbeats 2000000 in
set_option maxRecDepth 100000 in
/-- A rune beyond ASCII is none of the blanks. -/
theorem IndexRune_high (r : Int) (h0 : 128 ≤ r) (h1 : r ≤ 2147483647) (w : World) :
    Calls Tryd.prog 87 #[.string bl, .int .i32 r] w fun e w' => e = .returned (.int .i64 (-1)) ∧ Below w.heap.size w w' := by
  have c0 : decide (0 ≤ r) = true := decide_eq_true (by omega)
  have c1 : decide (r < 128) = false := decide_eq_false (by omega)
  by_cases hr : r = 65533
  · subst hr
    clear h0 h1
    go_enter Tryd.func87, Tryd.ntmps87
    go_wp2
    have HB0 : Below w.heap.size w (w.iter bl 0) := (Below.refl _ w).alloc (Nat.le_refl _) _
    go_loopw [5] (fun v5 wr => ∃ (p : Nat), p ≤ bl.size ∧ wr.heap[w.heap.size]? = some (.stringIter bl p) ∧ Below w.heap.size w wr) (fun _ wr => bl.size - wr.iterPos w.heap.size)
    case atStart => exact ⟨0, Nat.zero_le _, World.iter_heap w bl 0, HB0⟩
    case round =>
      obtain ⟨p, hp, hk, hB⟩ := hrel
      clear HB0
      by_cases hlt : p < bl.size
      · obtain ⟨W1, hW1⟩ : ∃ W1, wr.iterAt w.heap.size bl (p + 1) = W1 := ⟨_, rfl⟩
        obtain ⟨x, hx⟩ : ∃ x : Nat, (bl[p]'hlt).toNat = x := ⟨_, rfl⟩
        have hxl : x < 128 := hx ▸ bl_byte p hlt
        have hnx : ∀ ty, (Instr.next (.pointer (some ⟨w.heap.size, 0, none⟩)) true ty).run Tryd.prog wr = .ok (.tuple #[.bool true, .int .i64 p, .int .i32 x]) W1 := fun ty => by
          rw [← hW1, ← hx]; exact run_next_ascii_at wr w.heap.size bl p ty hk hlt (bl_byte p hlt)
        have hk1 : W1.heap[w.heap.size]? = some (.stringIter bl (p + 1)) := by rw [← hW1]; exact iterAt_heap _ _ _ _ _ hk
        have hB1 : Below w.heap.size w W1 := by rw [← hW1]; exact below_iterAt hB (Nat.le_refl _) _ _
        have hm0 := iterPos_of hk
        have hm1 := iterPos_of hk1
        have hxe : ((x : Int) == 65533) = false := beq_eq_false_iff_ne.2 (by omega)
        clear hW1 hx
        have HK1 := Lib.hid hk1
        have HB1 := Lib.hid hB1
        have HM0 := Lib.hid hm0
        have HM1 := Lib.hid hm1
        clear hk hk1 hB hB1 hm0 hm1
        go_wp2
        exact ⟨⟨p + 1, hlt, HK1.out, HB1.out⟩, by rw [HM1.out, HM0.out]; omega⟩
      · have hnx : ∀ ty, (Instr.next (.pointer (some ⟨w.heap.size, 0, none⟩)) true ty).run Tryd.prog wr = .ok (.tuple #[.bool false]) wr := fun ty => run_next_end_at wr w.heap.size bl p ty hk hlt
        have HB := Lib.hid hB
        clear hk hB
        go_wp2
        go_ret
        exact ⟨rfl, HB.out⟩
  · have c2 : (r == 65533) = false := beq_eq_false_iff_ne.2 hr
    cases hv : Utf8.valid r with
    | false =>
      go_enter Tryd.func87, Tryd.ntmps87
      go_wp2_with (go_at_call 110; (with_reducible refine (validRune_any r h0 _).mono ?_); rintro e w1 ⟨rfl, nd, rfl⟩; rw [hv])
      go_ret
      exact ⟨rfl, below_drewN0 nd⟩
    | true =>
      obtain ⟨e1, e2, e3⟩ := encode_facts r hv h0
      obtain ⟨rs, hrs⟩ : ∃ rs, Utf8.encode r = rs := ⟨_, rfl⟩
      rw [hrs] at e1 e2 e3
      go_enter Tryd.func87, Tryd.ntmps87
      go_wp2_with (go_at_call 110; (with_reducible refine (validRune_any r h0 _).mono ?_); rintro e w1 ⟨rfl, nd, rfl⟩; rw [hv])
      have hq : rs.size = 2 ∨ rs.size = 3 ∨ rs.size = 4 := by omega
      rcases hq with hq | hq | hq
      · obtain ⟨y, hy⟩ : ∃ y : Nat, (rs[1]'(by omega)).toNat = y := ⟨_, rfl⟩
        have hy1 : 128 ≤ y := by
          have h := e3 (by omega)
          rw [← hy]
          simpa [hq] using h
        have hy2 : y < 256 := by rw [← hy]; exact UInt8.toNat_lt _
        have hbt : ∀ h : 1 < rs.size, ((rs[1]'h).toNat : Int) = (y : Int) := fun h => by rw [hy]
        have hwr : wrap64 ((rs.size : Int) - 1) = 1 := by rw [hq]; decide +kernel
        have hq1 : ((1 : Int) < (rs.size : Int)) = True := eq_true (by omega)
        have hq2 : (1 < rs.size) = True := eq_true (by omega)
        have hne : ((9 : Int) == (y : Int)) = false := beq_eq_false_iff_ne.2 (by omega)
        have hne2 : ((9 : Int) != (y : Int)) = true := bne_iff_ne.2 (by omega)
        have hbl : ∀ h : 1 < bl.size, ((bl[1]'h).toNat : Int) = 9 := fun _ => rfl
        have hib := Lib.hid (fun w => indexByte_none (bl.extract 2 4) (by kernel_rfl) y hy1 hy2 w)
        clear e1 e2 e3 hy
        refine wp_scope_labels (fun _ _ _ => False) (fun _ _ _ => 0) (fun _ _ _ h => h.elim) ?_ (fun _ _ _ h => h.elim)
        intro _
        go_wp2
        refine wp_loop_rounds 1 ?_
        rw [rounds_succ]
        go_wp2
        refine wp_scope_labels (fun _ _ _ => False) (fun _ _ _ => 0) (fun _ _ _ h => h.elim) ?_ (fun _ _ _ h => h.elim)
        intro _
        go_wp2
        go_quiet (fail)
        go_wp2
        go_quiet (first | (go_at_call 109; exact (hib.out _).mono (fun e w' h => ⟨h.1, _, h.2⟩)))
        go_wp2
        simp only [jumps, Exit.then, Exit.inBlock]
        dsimp +zetaDelta only
        simp only [jumps, Exit.then, Exit.inBlock]
        go_ret
        exact ⟨rfl, below_drewN0 _⟩
      · obtain ⟨y, hy⟩ : ∃ y : Nat, (rs[2]'(by omega)).toNat = y := ⟨_, rfl⟩
        have hy1 : 128 ≤ y := by
          have h := e3 (by omega)
          rw [← hy]
          simpa [hq] using h
        have hy2 : y < 256 := by rw [← hy]; exact UInt8.toNat_lt _
        have hbt : ∀ h : 2 < rs.size, ((rs[2]'h).toNat : Int) = (y : Int) := fun h => by rw [hy]
        have hwr : wrap64 ((rs.size : Int) - 1) = 2 := by rw [hq]; decide +kernel
        have hq1 : ((2 : Int) < (rs.size : Int)) = True := eq_true (by omega)
        have hq2 : (2 < rs.size) = True := eq_true (by omega)
        have hne : ((13 : Int) == (y : Int)) = false := beq_eq_false_iff_ne.2 (by omega)
        have hne2 : ((13 : Int) != (y : Int)) = true := bne_iff_ne.2 (by omega)
        have hbl : ∀ h : 2 < bl.size, ((bl[2]'h).toNat : Int) = 13 := fun _ => rfl
        have hib := Lib.hid (fun w => indexByte_none (bl.extract 3 4) (by kernel_rfl) y hy1 hy2 w)
        clear e1 e2 e3 hy
        refine wp_scope_labels (fun _ _ _ => False) (fun _ _ _ => 0) (fun _ _ _ h => h.elim) ?_ (fun _ _ _ h => h.elim)
        intro _
        go_wp2
        refine wp_loop_rounds 1 ?_
        rw [rounds_succ]
        go_wp2
        refine wp_scope_labels (fun _ _ _ => False) (fun _ _ _ => 0) (fun _ _ _ h => h.elim) ?_ (fun _ _ _ h => h.elim)
        intro _
        go_wp2
        go_quiet (fail)
        go_wp2
        go_quiet (first | (go_at_call 109; exact (hib.out _).mono (fun e w' h => ⟨h.1, _, h.2⟩)))
        go_wp2
        simp only [jumps, Exit.then, Exit.inBlock]
        dsimp +zetaDelta only
        simp only [jumps, Exit.then, Exit.inBlock]
        go_ret
        exact ⟨rfl, below_drewN0 _⟩
      · obtain ⟨y, hy⟩ : ∃ y : Nat, (rs[3]'(by omega)).toNat = y := ⟨_, rfl⟩
        have hy1 : 128 ≤ y := by
          have h := e3 (by omega)
          rw [← hy]
          simpa [hq] using h
        have hy2 : y < 256 := by rw [← hy]; exact UInt8.toNat_lt _
        have hbt : ∀ h : 3 < rs.size, ((rs[3]'h).toNat : Int) = (y : Int) := fun h => by rw [hy]
        have hwr : wrap64 ((rs.size : Int) - 1) = 3 := by rw [hq]; decide +kernel
        have hq1 : ((3 : Int) < (rs.size : Int)) = True := eq_true (by omega)
        have hq2 : (3 < rs.size) = True := eq_true (by omega)
        have hne : ((10 : Int) == (y : Int)) = false := beq_eq_false_iff_ne.2 (by omega)
        have hne2 : ((10 : Int) != (y : Int)) = true := bne_iff_ne.2 (by omega)
        have hbl : ∀ h : 3 < bl.size, ((bl[3]'h).toNat : Int) = 10 := fun _ => rfl
        have hib := Lib.hid (fun w => indexByte_none ByteArray.empty (by kernel_rfl) y hy1 hy2 w)
        clear e1 e2 e3 hy
        refine wp_scope_labels (fun _ _ _ => False) (fun _ _ _ => 0) (fun _ _ _ h => h.elim) ?_ (fun _ _ _ h => h.elim)
        intro _
        go_wp2
        refine wp_loop_rounds 1 ?_
        rw [rounds_succ]
        go_wp2
        refine wp_scope_labels (fun _ _ _ => False) (fun _ _ _ => 0) (fun _ _ _ h => h.elim) ?_ (fun _ _ _ h => h.elim)
        intro _
        go_wp2
        go_quiet (fail)
        go_wp2
        go_quiet (first | (go_at_call 109; exact (hib.out _).mono (fun e w' h => ⟨h.1, _, h.2⟩)))
        go_wp2
        simp only [jumps, Exit.then, Exit.inBlock]
        dsimp +zetaDelta only
        simp only [jumps, Exit.then, Exit.inBlock]
        go_ret
        exact ⟨rfl, below_drewN0 _⟩

/-- The bytes of a rune that begins beyond ASCII are beyond ASCII. -/
theorem rune_bytes (s : ByteArray) (p : Nat) (h : p < s.size) (ha : 128 ≤ (s[p]'h).toNat) : p + (Utf8.decode s p).2 ≤ s.size ∧ ∀ j (hj : j < s.size), p ≤ j → j < p + (Utf8.decode s p).2 → 128 ≤ (s[j]'hj).toNat := by
  have hN := decode_N s p
  have hl : s.data.toList.length = s.size := Array.length_toList
  have hc := decodeN_conts (s.data.toList.length - p) (s.data.toList.getD p 0).toNat (s.data.toList.getD (p + 1) 0).toNat (s.data.toList.getD (p + 2) 0).toNat (s.data.toList.getD (p + 3) 0).toNat
  rw [← hN] at hc
  have hget : ∀ j (hj : j < s.size), (s.data.toList.getD j 0) = s[j]'hj := by
    intro j hj
    rw [List.getD_eq_getElem?_getD, List.getElem?_eq_getElem (by omega), Array.getElem_toList]
    rfl
  obtain ⟨c1, c2, c3, c4⟩ := hc
  refine ⟨?_, fun j hj h1 h2 => ?_⟩
  · by_cases w2 : 2 ≤ (Utf8.decode s p).2
    · by_cases w3 : 3 ≤ (Utf8.decode s p).2
      · by_cases w4 : 4 ≤ (Utf8.decode s p).2
        · have := (c3 w4).2; omega
        · have := (c2 w3).2; omega
      · have := (c1 w2).2; omega
    · omega
  · by_cases e0 : j = p
    · subst e0; exact ha
    · by_cases e1 : j = p + 1
      · subst e1
        have h3 := (c1 (by omega)).1
        rw [hget (p + 1) hj] at h3
        omega
      · by_cases e2 : j = p + 2
        · subst e2
          have h3 := (c2 (by omega)).1
          rw [hget (p + 2) hj] at h3
          omega
        · obtain rfl : j = p + 3 := by omega
          have h3 := (c3 (by omega)).1
          rw [hget (p + 3) hj] at h3
          omega

theorem blankB_high (b : UInt8) (h : 128 ≤ b.toNat) : blankB b = false := by
  unfold blankB
  have h1 : (b == 32) = false := beq_eq_false_iff_ne.2 (fun e => by subst e; revert h; decide)
  have h2 : (b == 9) = false := beq_eq_false_iff_ne.2 (fun e => by subst e; revert h; decide)
  have h3 : (b == 13) = false := beq_eq_false_iff_ne.2 (fun e => by subst e; revert h; decide)
  have h4 : (b == 10) = false := beq_eq_false_iff_ne.2 (fun e => by subst e; revert h; decide)
  rw [h1, h2, h3, h4]
  rfl
theorem index_blank (b : UInt8) : decide (0 ≤ Lib.indexByte bl.data.toList b) = blankB b := by
  have h : ∀ n : Fin 256, decide (0 ≤ Lib.indexByte bl.data.toList (UInt8.ofNat n.val)) = blankB (UInt8.ofNat n.val) := by decide +kernel
  have := h ⟨b.toNat, b.toNat_lt⟩
  simpa using this
/-- IndexRune of the blanks at what the iteration gives for a string's place. -/
theorem IndexRune_at (s : ByteArray) (p : Nat) (h : p < s.size) (w : World) :
    Calls Tryd.prog 87 #[.string bl, .int .i32 (Utf8.decode s p).1] w fun e w' => ∃ z : Int, e = .returned (.int .i64 z) ∧ decide (0 ≤ z) = blankB (s[p]'h) ∧ Below w.heap.size w w' := by
  by_cases ha : (s[p]'h).toNat < 128
  · rw [decode_ascii s p h ha]
    refine (Tryd.strings_IndexRune_ascii bl ((s[p]'h).toNat : Int) w (by omega) (by omega)).mono ?_
    rintro e w' ⟨rfl, rfl⟩
    refine ⟨_, rfl, ?_, Below.refl _ _⟩
    rw [Int.toNat_natCast]
    have e : (s[p]'h).toNat.toUInt8 = s[p]'h := by simp
    rw [e]
    exact index_blank _
  · have hd := decode_high s p h (by omega)
    have hle := decode_le s p
    refine (IndexRune_high ((Utf8.decode s p).1 : Int) (by omega) (by omega) w).mono ?_
    rintro e w' ⟨rfl, hb⟩
    exact ⟨-1, rfl, by rw [blankB_high _ (by omega)]; rfl, hb⟩

theorem any_at (s : ByteArray) (p : Nat) (h : p < s.size) (hb : blankB (s[p]'h) = true) : blankF s = true := by
  unfold blankF
  rw [List.any_eq_true]
  exact ⟨s[p]'h, mem_byte s p h, hb⟩
theorem any_none (s : ByteArray) (h : ∀ j (hj : j < s.size), blankB (s[j]'hj) = false) : blankF s = false := by
  unfold blankF
  rw [List.any_eq_false]
  intro b hb
  obtain ⟨j, hj, rfl⟩ := List.mem_iff_getElem.1 hb
  have := h j (by simpa using hj)
  rw [Array.getElem_toList]
  show ¬ (blankB (s[j]'_) = true)
  rw [this]
  exact Bool.false_ne_true

set_option maxHeartbeats 2000000 in
set_option maxRecDepth 100000 in
theorem IndexAny_short (s : ByteArray) (h8 : s.size ≤ 8) (w : World) :
    Calls Tryd.prog 67 #[.string s, .string bl] w fun e w' => ∃ z : Int, e = .returned (.int .i64 z) ∧ decide (0 ≤ z) = blankF s ∧ Below w.heap.size w w' := by
  have d8 : decide (8 < (s.size : Int)) = false := decide_eq_false (by omega)
  go_enter Tryd.func67, Tryd.ntmps67
  go_wp2_with (go_at_call 88; (with_reducible refine (Tryd.strings_shouldUseASCIISet (s.size : Int) w).mono ?_); rintro e w1 ⟨rfl, rfl⟩; rw [d8])
  have HB0 : Below w1.heap.size w1 (w1.iter s 0) := (Below.refl _ w1).alloc (Nat.le_refl _) _
  go_loopw [9] (fun v9 wr => ∃ (p : Nat), p ≤ s.size ∧ Hid (∀ j (hj : j < s.size), j < p → blankB (s[j]'hj) = false) ∧ wr.heap[w1.heap.size]? = some (.stringIter s p) ∧ Below w1.heap.size w1 wr) (fun _ wr => s.size - wr.iterPos w1.heap.size)
  case atStart => exact ⟨0, Nat.zero_le _, Lib.hid (fun j _ h => by omega), World.iter_heap w1 s 0, HB0⟩
  case round =>
    obtain ⟨p, hp, HP, hk, hB⟩ := hrel
    clear HB0
    by_cases hlt : p < s.size
    · obtain ⟨W1, hW1⟩ : ∃ W1, wr.iterAt w1.heap.size s (p + (Utf8.decode s p).2) = W1 := ⟨_, rfl⟩
      have hnx : ∀ ty, (Instr.next (.pointer (some ⟨w1.heap.size, 0, none⟩)) true ty).run Tryd.prog wr = .ok (.tuple #[.bool true, .int .i64 p, .int .i32 (Utf8.decode s p).1]) W1 := fun ty => by
        rw [← hW1]; exact run_next_any_at wr w1.heap.size s p ty hk hlt
      have hk1 : W1.heap[w1.heap.size]? = some (.stringIter s (p + (Utf8.decode s p).2)) := by rw [← hW1]; exact iterAt_heap _ _ _ _ _ hk
      have hB1 : Below w1.heap.size w1 W1 := by rw [← hW1]; exact below_iterAt hB (Nat.le_refl _) _ _
      have HIR := Lib.hid (IndexRune_at s p hlt)
      have hnext : blankB (s[p]'hlt) = false → p + (Utf8.decode s p).2 ≤ s.size ∧ 1 ≤ (Utf8.decode s p).2 ∧ ∀ j (hj : j < s.size), j < p + (Utf8.decode s p).2 → blankB (s[j]'hj) = false := by
        intro hbl
        by_cases ha : (s[p]'hlt).toNat < 128
        · rw [decode_ascii s p hlt ha]
          refine ⟨hlt, Nat.le_refl _, fun j hj hjl => ?_⟩
          by_cases e : j = p
          · subst e; exact hbl
          · exact HP.out j hj (by show j < p; have : j < p + 1 := hjl; omega)
        · have hr := rune_bytes s p hlt (by omega)
          refine ⟨hr.1, (decode_high s p hlt (by omega)).2, fun j hj hjl => ?_⟩
          by_cases e : j < p
          · exact HP.out j hj e
          · exact blankB_high _ (hr.2 j hj (by omega) hjl)
      have HNX := Lib.hid hnext
      have hm0 := iterPos_of hk
      have hm1 := iterPos_of hk1
      clear hW1 hnext
      generalize (Utf8.decode s p).1 = c at *
      generalize (Utf8.decode s p).2 = d at *
      have HK1 := Lib.hid hk1
      have HB1 := Lib.hid hB1
      have HM0 := Lib.hid hm0
      have HM1 := Lib.hid hm1
      clear hk hk1 hB hB1 hm0 hm1
      cases hbl : blankB (s[p]'hlt) with
      | true =>
        have hF := any_at s p hlt hbl
        go_wp2_with (go_at_call 87; (with_reducible refine (HIR.out W1).mono ?_); rintro e w2 ⟨z, rfl, hz, hb2⟩; rw [hbl] at hz; have HB2 := Lib.hid hb2; clear hb2)
        go_ret
        exact ⟨_, rfl, by rw [hF]; exact decide_eq_true (by omega), HB1.out.trans (HB2.out.mono HB1.out.size)⟩
      | false =>
        go_wp2_with (go_at_call 87; (with_reducible refine (HIR.out W1).mono ?_); rintro e w2 ⟨z, rfl, hz, hb2⟩; rw [hbl] at hz; have HB2 := Lib.hid hb2; clear hb2)
        have hn := HNX.out hbl
        have hk2 : w2.heap[w1.heap.size]? = some (.stringIter s (p + d)) := (HB2.out.block _ (Array.getElem?_eq_some_iff.1 HK1.out).1).trans HK1.out
        have hm2 := iterPos_of hk2
        exact ⟨⟨p + d, hn.1, Lib.hid hn.2.2, hk2, HB1.out.trans (HB2.out.mono HB1.out.size)⟩, by rw [hm2, HM0.out]; have := hn.2.1; omega⟩
    · have hnx : ∀ ty, (Instr.next (.pointer (some ⟨w1.heap.size, 0, none⟩)) true ty).run Tryd.prog wr = .ok (.tuple #[.bool false]) wr := fun ty => run_next_end_at wr w1.heap.size s p ty hk hlt
      have hF := any_none s (fun j hj => HP.out j hj (by omega))
      have HB := Lib.hid hB
      clear hk hB
      go_wp2
      go_ret
      exact ⟨_, rfl, by rw [hF]; rfl, HB.out⟩
theorem hasAny_all (s : ByteArray) (hs : s.size < 4294967281) : HasAny s := by
  intro w hg
  have key : ∀ w, Calls Tryd.prog 67 #[.string s, .string bl] w fun e w' => ∃ z : Int, e = .returned (.int .i64 z) ∧ decide (0 ≤ z) = blankF s ∧ Below w.heap.size w w' := by
    intro w
    by_cases h8 : s.size ≤ 8
    · exact IndexAny_short s h8 w
    · refine (Tryd.strings_IndexAny_long (zero_of_info (show (Tryd.prog.info? 136).map (fun i => (i.zero, i.size)) = some (some (.agg (Array.replicate 256 (.bool false))), 256) by kernel_rfl)).1 s bl w (by decide) (by omega) hs (by decide) (ascii_of_all (by decide))).mono ?_
      rintro e w' ⟨rfl, rfl⟩
      exact ⟨_, rfl, any_blank _, ((Below.refl _ _).alloc (Nat.le_refl _) _).alloc (by simp) _⟩
  go_enter Tryd.func43, Tryd.ntmps43
  go_wp2_with (go_at_call 67; (with_reducible refine (key w).mono ?_); rintro e w1 ⟨z, rfl, hz, hb⟩)
  go_ret
  exact ⟨rfl, hb⟩

/-- As wrapF, at words of whatever bytes. -/
def wrapG (words : List ByteArray) (width : Int) : Option (ByteArray × Int) :=
  if width < 1 ∨ 255 < width then some (⟨#[]⟩, 2)
  else if cost words ≤ 1000000 then some (wrapR (wrapL width words [] 0)) else none
theorem WrapG_calls (A0 : Option Addr) (c0 : Nat) (l0 : List ByteArray) (a1 : Int) (r1 : ByteArray) (r2 : Int) (w : World) (hr0 : Kd.C Kd.string w A0 l0.length l0) (hc0 : l0.length ≤ c0) (h : wrapG l0 a1 = some (r1, r2)) (hg : Laid w) :
    Calls Tryd.prog 12 #[.slice A0 l0.length c0, .int .i64 a1] w fun e w' => e = .returned (.tuple #[.string r1, .int .i64 r2]) ∧ Below w.heap.size w w' := by
  unfold wrapG at h
  split at h
  · rename_i ha
    obtain ⟨rfl, rfl⟩ := Prod.mk.inj (Option.some.inj h)
    exact Wrap_range A0 c0 l0.length a1 w ha
  · rename_i ha
    split at h
    · rename_i hb
      have h' := Option.some.inj h
      have h2 := Wrap_any A0 c0 l0 a1 w hr0 hg (fun s hs => hasAny_all s (by have := cost_mem hs; omega)) (by omega) (by omega) hb _ rfl
      rw [h'] at h2
      exact h2
    · cases h
end Go.Proofs.YtlpoglkddknedaaDoor.H

/- token.Quote: the quoted form, or the error, as the plain function quoteF tells it. Condition: s has at most 2^47 - 4096 bytes. -/
import Derived.Test.YtlpoglkddknedaaGreatDoorHb
import Derived.Lib.ConvBytes
namespace Go.Proofs.YtlpoglkddknedaaGreatDoor.H
open Go.RowKit Go.Lib
set_option linter.unusedVariables false
set_option linter.unusedSimpArgs false

def prnt (c : UInt8) : Bool := decide (32 ≤ c.toNat ∧ c.toNat ≤ 126)
def quoteL (l : List UInt8) : List UInt8 := l.flatMap fun c => if c.toNat = 34 ∨ c.toNat = 92 then [92, c] else [c]
def quoteF (s : ByteArray) : ByteArray × Int :=
  if s.data.toList.all prnt then (if 255 < s.size then (⟨#[]⟩, 9) else (⟨(34 :: quoteL s.data.toList ++ [34]).toArray⟩, 0)) else (⟨#[]⟩, 8)

theorem quoteL_snoc (l : List UInt8) (c : UInt8) : quoteL (l ++ [c]) = quoteL l ++ (if c.toNat = 34 ∨ c.toNat = 92 then [92, c] else [c]) := by
  simp [quoteL, List.flatMap_append]
theorem quoteL_le (l : List UInt8) : (quoteL l).length ≤ 2 * l.length := by
  induction l with
  | nil => simp [quoteL]
  | cons c r ih =>
    have e : quoteL (c :: r) = (if c.toNat = 34 ∨ c.toNat = 92 then [92, c] else [c]) ++ quoteL r := rfl
    rw [e, List.length_append, List.length_cons]
    split
    · simp only [List.length_cons, List.length_nil]; omega
    · simp only [List.length_cons, List.length_nil]; omega
theorem take_snoc (s : ByteArray) (k : Nat) (h : k < s.size) : s.data.toList.take (k + 1) = s.data.toList.take k ++ [s[k]] := by
  rw [List.take_succ_eq_append_getElem (by simpa using h)]; rfl
theorem all_of (s : ByteArray) (p : UInt8 → Bool) (h : ∀ j (h : j < s.size), p s[j] = true) : s.data.toList.all p = true := by
  rw [List.all_eq_true]
  intro x hx
  obtain ⟨j, hj, rfl⟩ := List.getElem_of_mem hx
  exact h j (by simpa using hj)
theorem all_not (s : ByteArray) (p : UInt8 → Bool) (j : Nat) (h : j < s.size) (hp : p s[j] = false) : s.data.toList.all p = false := by
  rw [Bool.eq_false_iff]
  intro ha
  rw [List.all_eq_true] at ha
  have := ha s[j] (mem_byte s j h)
  rw [hp] at this
  cases this

theorem WriteByte_at (W : World) (B b : Nat) (ok : Nat → Prop) (l : List UInt8) (n : Int) (c : UInt8) (hn : n = c.toNat) (h : Bld W B b ok l) (hlen : l.length + 1 ≤ 140737488355328) (hBW : B ≤ W.heap.size) (hok : ∀ k, W.heap.size ≤ k → ok k) :
    Calls Tryz.prog 37 #[.pointer (some ⟨b, 0, none⟩), .int .u8 n] W fun e W' => e = .returned .nilIface ∧ Bld W' B b ok (l ++ [c]) ∧ Below B W W' ∧ KeptNot ok b W W' := by
  subst hn
  exact WriteByte_own W B b ok l c h hlen hBW hok

/-- The bytes of a string in a block of their own. -/
def RowB (W : World) (g : Nat) (s : ByteArray) : Prop := g < W.heap.size ∧ ∀ j (h : j < s.size), W.cell? ⟨g, j, none⟩ = some (.int .u8 s[j].toNat)
theorem RowB.keptNot {W W' : World} {g b : Nat} {s : ByteArray} (h : RowB W g s) (hk : KeptNot (fun k => k ≠ g) b W W') (hb : g ≠ b) : RowB W' g s := by
  refine ⟨Nat.lt_of_lt_of_le h.1 hk.1, fun j hj => ?_⟩
  rw [← h.2 j hj]
  exact World.cell?_of_block (hk.2 g h.1 hb (by simp))

theorem conv_bytes (w : World) (s : ByteArray) : ∃ W' c, (convert 9 42 (.string s)).run Tryz.prog w = .ok (.slice (some ⟨w.heap.size, 0, none⟩) s.size c) W' ∧ RowB W' w.heap.size s ∧ Below w.heap.size w W' ∧ W'.heap.size = w.heap.size + 1 := by
  refine ⟨bytesWorld w 5 s, _, Go.Lib.run_convert_string_bytes (P := Tryz.prog) w 9 42 5 s Tryz.underlying9 Tryz.underlying42 Tryz.underlying5, ⟨by rw [bytesWorld_size]; omega, fun j hj => ?_⟩, ⟨?_, ?_, ?_, by rw [bytesWorld_size]; omega, fun k hk => bytesWorld_at_old w 5 s k hk⟩, bytesWorld_size w 5 s⟩
  · rw [bytesWorld_cell w 5 s j hj]
    congr 3
    simp [List.getD, hj]
    rfl
  · rfl
  · rfl
  · rfl

set_option maxHeartbeats 2000000 in
theorem quote_any (s : ByteArray) (hs : s.size ≤ 140737488351232) (w : World) :
    Calls Tryz.prog 20 #[.string s] w fun e w' => e = .returned (.tuple #[.string (quoteF s).1, .int .i64 (quoteF s).2]) ∧ Below w.heap.size w w' := by
  go_enter Tryz.func20, Tryz.ntmps20
  go_wp2
  go_loop [10] (fun i => ∃ k : Nat, k ≤ s.size ∧ i = .int .i64 k ∧ Hid (∀ j (h : j < s.size), j < k → prnt s[j] = true)) (fun i => s.size - (Go.RowKit.intOf i).toNat)
  case atStart => exact ⟨0, Nat.zero_le _, rfl, Lib.hid (fun j _ h => by omega)⟩
  case round =>
    obtain ⟨k, hk, rfl, HP⟩ := hrel
    by_cases hlt : k < s.size
    · by_cases h1 : s[k].toNat < 32
      · have a1 : (s[k].toNat : Int) < 32 := by omega
        have HE := Lib.hid (show quoteF s = (⟨#[]⟩, 8) by simp [quoteF, all_not s prnt k hlt (by simp [prnt]; omega)])
        go_wp2
        go_ret2
        rw [HE.out]
        exact ⟨rfl, Below.refl _ _⟩
      · have a1 : 32 ≤ (s[k].toNat : Int) := by omega
        by_cases h2 : 126 < s[k].toNat
        · have a2 : 126 < (s[k].toNat : Int) := by omega
          have HE := Lib.hid (show quoteF s = (⟨#[]⟩, 8) by simp [quoteF, all_not s prnt k hlt (by simp [prnt]; omega)])
          go_wp2
          go_ret2
          rw [HE.out]
          exact ⟨rfl, Below.refl _ _⟩
        · have a2 : (s[k].toNat : Int) ≤ 126 := by omega
          have HP2 := Lib.hid (show ∀ j (h : j < s.size), j < k + 1 → prnt s[j] = true from fun j h hj => by
            by_cases e : j < k
            · exact HP.out j h e
            · obtain rfl : j = k := by omega
              simp [prnt]; omega)
          go_wp2
          go_round
          case rel => exact ⟨k + 1, by omega, by go_num, HP2⟩
          case measure => simp [Go.RowKit.intOf]; omega
    · obtain rfl : k = s.size := by omega
      have HA := Lib.hid (all_of s prnt (fun j h => HP.out j h h))
      by_cases hl : 255 < s.size
      · have a1 : (255 : Int) < s.size := by omega
        have HE := Lib.hid (show quoteF s = (⟨#[]⟩, 9) by simp [quoteF, HA.out, hl])
        go_wp2
        go_ret2
        rw [HE.out]
        exact ⟨rfl, Below.refl _ _⟩
      · have a1 : (s.size : Int) ≤ 255 := by omega
        have HE := Lib.hid (show quoteF s = (⟨(34 :: quoteL s.data.toList ++ [34]).toArray⟩, 0) by simp [quoteF, HA.out]; omega)
        go_wp2_with fail
        refine (WriteByte_at _ w.heap.size w.heap.size (fun k => k ≠ w.heap.size) [] 34 34 rfl ((Bld.new w).mono (fun k h => by omega)) (by simp) (by simp) (fun k hk => by simp at hk; omega)).mono ?_
        rintro e w1 ⟨rfl, hb1, hB1, hk1⟩
        obtain ⟨W2, cap, hcv, hrow, hB2, hsz2⟩ := conv_bytes w1 s
        simp only [List.nil_append] at hb1
        have HB1 := Lib.hid ((Bld.of hb1.is).mono (ok' := fun k => k ≠ w1.heap.size) (fun k h => by omega))
        have HBL := Lib.hid ((show Below w.heap.size w (w.alloc _) from (Below.refl _ w).alloc (Nat.le_refl _) _).trans hB1)
        have HSZ := Lib.hid hB1.size
        have HBD := Lib.hid (HB1.out.below hB2)
        have HBL2 := Lib.hid (HBL.out.trans (hB2.mono HBL.out.size))
        have HRW := Lib.hid hrow
        have hgb : w1.heap.size ≠ w.heap.size := by have := hB1.size; simp at this; omega
        clear hb1 hB1 hk1 hrow hB2 hsz2 hk HP hlt hl a1
        go_wp2_with fail
        go_loopw [31] (fun i wr => ∃ k : Nat, k ≤ s.size ∧ i = .int .i64 k ∧ Bld wr w.heap.size w.heap.size (fun k => k ≠ w1.heap.size) (34 :: quoteL (s.data.toList.take k)) ∧ RowB wr w1.heap.size s ∧ Below w.heap.size w wr) (fun i _ => s.size - (Go.RowKit.intOf i).toNat)
        case atStart => exact ⟨0, Nat.zero_le _, rfl, HBD.out, HRW.out, HBL2.out⟩
        case round =>
          obtain ⟨k, hk, rfl, hbd, hrow, hbl⟩ := hrel
          have HBD := Lib.hid hbd
          have HRW := Lib.hid hrow
          have HBL := Lib.hid hbl
          clear hbd hrow hbl hcv
          have hq := quoteL_le (s.data.toList.take k)
          have hql : (s.data.toList.take k).length ≤ k := List.length_take_le _ _
          by_cases hlt : k < s.size
          · have hc := HRW.out.2 k hlt
            have HT := Lib.hid (take_snoc s k hlt)
            have HQ := Lib.hid (quoteL_snoc (s.data.toList.take k) s[k])
            by_cases h1 : s[k].toNat = 34
            · have HQ2 := Lib.hid (show s[k].toNat = 34 ∨ s[k].toNat = 92 from .inl h1)
              have e1 : ((s[k].toNat : Int) == 34) = true := by rw [h1]; rfl
              clear h1
              go_wp2_with fail
              refine (WriteByte_at wr w.heap.size w.heap.size (fun k => k ≠ w1.heap.size) _ 92 92 rfl HBD.out (by simp only [List.length_cons, List.length_append, List.length_nil]; omega) HBL.out.size (fun j hj => by have := HRW.out.1; omega)).mono ?_
              rintro e w2 ⟨rfl, hbd2, hB2, hk2⟩
              have HBD' := Lib.hid hbd2
              have HRW' := Lib.hid (HRW.out.keptNot hk2 hgb)
              have HBL' := Lib.hid (HBL.out.trans hB2)
              clear hbd2 hB2 hk2
              go_wp2_with fail
              refine (WriteByte_at w2 w.heap.size w.heap.size (fun k => k ≠ w1.heap.size) _ _ s[k] rfl HBD'.out (by simp only [List.length_cons, List.length_append, List.length_nil]; omega) HBL'.out.size (fun j hj => by have := HRW'.out.1; omega)).mono ?_
              rintro e w3 ⟨rfl, hbd2, hB2, hk2⟩
              have HBD'' := Lib.hid hbd2
              have HRW'' := Lib.hid (HRW'.out.keptNot hk2 hgb)
              have HBL'' := Lib.hid (HBL'.out.trans hB2)
              clear hbd2 hB2 hk2
              go_wp2
              go_roundw
              case rel => exact ⟨k + 1, by omega, by go_num, by rw [HT.out, HQ.out, if_pos HQ2.out]; first | exact HBD''.out | (have h := HBD''.out; simp only [List.cons_append, List.append_assoc, List.nil_append] at h ⊢; exact h), HRW''.out, HBL''.out⟩
              case measure => simp [Go.RowKit.intOf]; omega
            · by_cases h2 : s[k].toNat = 92
              · have HQ2 := Lib.hid (show s[k].toNat = 34 ∨ s[k].toNat = 92 from .inr h2)
                have e1 : ((s[k].toNat : Int) == 34) = false := by rw [beq_eq_false_iff_ne]; omega
                have e2 : ((s[k].toNat : Int) == 92) = true := by rw [h2]; rfl
                clear h1 h2
                go_wp2_with fail
                refine (WriteByte_at wr w.heap.size w.heap.size (fun k => k ≠ w1.heap.size) _ 92 92 rfl HBD.out (by simp only [List.length_cons, List.length_append, List.length_nil]; omega) HBL.out.size (fun j hj => by have := HRW.out.1; omega)).mono ?_
                rintro e w2 ⟨rfl, hbd2, hB2, hk2⟩
                have HBD' := Lib.hid hbd2
                have HRW' := Lib.hid (HRW.out.keptNot hk2 hgb)
                have HBL' := Lib.hid (HBL.out.trans hB2)
                clear hbd2 hB2 hk2
                go_wp2_with fail
                refine (WriteByte_at w2 w.heap.size w.heap.size (fun k => k ≠ w1.heap.size) _ _ s[k] rfl HBD'.out (by simp only [List.length_cons, List.length_append, List.length_nil]; omega) HBL'.out.size (fun j hj => by have := HRW'.out.1; omega)).mono ?_
                rintro e w3 ⟨rfl, hbd2, hB2, hk2⟩
                have HBD'' := Lib.hid hbd2
                have HRW'' := Lib.hid (HRW'.out.keptNot hk2 hgb)
                have HBL'' := Lib.hid (HBL'.out.trans hB2)
                clear hbd2 hB2 hk2
                go_wp2
                go_roundw
                case rel => exact ⟨k + 1, by omega, by go_num, by rw [HT.out, HQ.out, if_pos HQ2.out]; first | exact HBD''.out | (have h := HBD''.out; simp only [List.cons_append, List.append_assoc, List.nil_append] at h ⊢; exact h), HRW''.out, HBL''.out⟩
                case measure => simp [Go.RowKit.intOf]; omega
              · have e1 : ((s[k].toNat : Int) == 34) = false := by rw [beq_eq_false_iff_ne]; omega
                have e2 : ((s[k].toNat : Int) == 92) = false := by rw [beq_eq_false_iff_ne]; omega
                have HQ2 := Lib.hid (show ¬ (s[k].toNat = 34 ∨ s[k].toNat = 92) by omega)
                clear h1 h2
                go_wp2_with fail
                refine (WriteByte_at wr w.heap.size w.heap.size (fun k => k ≠ w1.heap.size) _ _ s[k] rfl HBD.out (by simp only [List.length_cons, List.length_append, List.length_nil]; omega) HBL.out.size (fun j hj => by have := HRW.out.1; omega)).mono ?_
                rintro e w2 ⟨rfl, hbd2, hB2, hk2⟩
                have HBD' := Lib.hid hbd2
                have HRW' := Lib.hid (HRW.out.keptNot hk2 hgb)
                have HBL' := Lib.hid (HBL.out.trans hB2)
                clear hbd2 hB2 hk2
                go_wp2
                go_roundw
                case rel => exact ⟨k + 1, by omega, by go_num, by rw [HT.out, HQ.out, if_neg HQ2.out]; first | exact HBD'.out | (have h := HBD'.out; simp only [List.cons_append, List.append_assoc, List.nil_append] at h ⊢; exact h), HRW'.out, HBL'.out⟩
                case measure => simp [Go.RowKit.intOf]; omega
          · obtain rfl : k = s.size := by omega
            have HT := Lib.hid (show s.data.toList.take s.size = s.data.toList from List.take_of_length_le (by simp))
            rw [HT.out] at HBD hq hql
            have hll : s.data.toList.length = s.size := by simp
            go_wp2_with fail
            refine (WriteByte_at wr w.heap.size w.heap.size (fun k => k ≠ w1.heap.size) _ 34 34 rfl HBD.out (by simp only [List.length_cons, List.length_append, List.length_nil]; omega) HBL.out.size (fun j hj => by have := HRW.out.1; omega)).mono ?_
            rintro e w2 ⟨rfl, hbd2, hB2, hk2⟩
            have HBD' := Lib.hid hbd2
            have HRW' := Lib.hid (HRW.out.keptNot hk2 hgb)
            have HBL' := Lib.hid (HBL.out.trans hB2)
            clear hbd2 hB2 hk2
            go_wp2_with (go_at_call 16; refine (Tryz.Builder_String_any w.heap.size w.heap.size _ _ HBD'.out.is HBL'.out.size).mono ?_; rintro e w4 ⟨rfl, hB4⟩)
            go_ret2
            rw [HE.out]
            exact ⟨rfl, HBL'.out.trans hB4⟩
end Go.Proofs.YtlpoglkddknedaaGreatDoor.H

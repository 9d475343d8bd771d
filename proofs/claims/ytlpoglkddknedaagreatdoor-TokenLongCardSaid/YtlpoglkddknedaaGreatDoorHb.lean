/- (*strings.Builder).WriteByte with a sharper frame: of what was there, the builder's own block and its buffer alone turn. Condition: the builder was made by the call itself, and its length is at most 2^47. -/
import Derived.Test.YtlpoglkddknedaaGreatDoorHt
import Derived.Maps.AppendAt
namespace Go.Proofs.YtlpoglkddknedaaGreatDoor.H
open Go.RowKit Go.Lib
set_option linter.unusedVariables false
set_option linter.unusedSimpArgs false

/-- A builder in block b that holds the bytes l; its buffer's block is one of which ok holds. -/
def Bld (W : World) (B b : Nat) (ok : Nat → Prop) (l : List UInt8) : Prop :=
  B ≤ b ∧ ∃ p v, (p = .pointer none ∨ p = .pointer (some ⟨b, 0, none⟩)) ∧ W.heap[b]? = some (.cells #[p, v] 44 (0, 0)) ∧ W.ownsRow B 5 1 v l.length (byteCells l) ∧ (∀ k, v.ownBlock = some k → ok k)

theorem ownBlk_ne {W : World} {B b : Nat} {v : Value} {l : List UInt8} {cs : Array Value} (h : W.ownsRow B 5 1 v l.length (byteCells l)) (hb : W.heap[b]? = some (.cells cs 44 (0, 0))) : v.ownBlock ≠ some b := ownBlock_ne h hb (by decide)

theorem Bld.is {W : World} {B b : Nat} {ok : Nat → Prop} {l : List UInt8} (h : Bld W B b ok l) : IsBuilder 44 5 B b (byteCells l) W := by
  obtain ⟨hB, p, v, hp, hb, hown, _⟩ := h
  have hown' : W.ownsRow B 5 1 v (byteCells l).length (byteCells l) := by rw [byteCells_length]; exact hown
  rcases hp with rfl | rfl
  · exact .inl ⟨hB, v, hb, hown', ownBlk_ne hown hb⟩
  · exact .inr ⟨hB, v, hb, hown', ownBlk_ne hown hb⟩

theorem Bld.of {W : World} {B b : Nat} {l : List UInt8} (h : IsBuilder 44 5 B b (byteCells l) W) : Bld W B b (fun k => k < W.heap.size) l := by
  rcases h with ⟨hB, v, hb, hown, _⟩ | ⟨hB, v, hb, hown, _⟩
  · rw [byteCells_length] at hown
    exact ⟨hB, _, v, .inl rfl, hb, hown, fun k hk => (hown.lt k hk).2⟩
  · rw [byteCells_length] at hown
    exact ⟨hB, _, v, .inr rfl, hb, hown, fun k hk => (hown.lt k hk).2⟩

theorem Bld.mono {W : World} {B b : Nat} {ok ok' : Nat → Prop} {l : List UInt8} (h : Bld W B b ok l) (hk : ∀ k, ok k → ok' k) : Bld W B b ok' l := by
  obtain ⟨hB, p, v, hp, hb, hown, ho⟩ := h
  exact ⟨hB, p, v, hp, hb, hown, fun k e => hk k (ho k e)⟩

theorem Bld.below {W W' : World} {B b : Nat} {ok : Nat → Prop} {l : List UInt8} (h : Bld W B b ok l) (hb : Below W.heap.size W W') : Bld W' B b ok l := by
  obtain ⟨hB, p, v, hp, hbk, hown, ho⟩ := h
  refine ⟨hB, p, v, hp, (hb.block b (Array.getElem?_eq_some_iff.1 hbk).1).trans hbk, ?_, ho⟩
  exact hown.kept (row := none) ⟨hb.os, hb.tape, hb.output, hb.size, fun k hk _ => hb.block k hk⟩ (by cases v.ownBlock <;> simp)

theorem Bld.new (W : World) : Bld (W.alloc (.cells #[.pointer none, .slice none 0 0] 44)) W.heap.size W.heap.size (fun k => k < W.heap.size) [] :=
  ⟨Nat.le_refl _, _, _, .inl rfl, heap_alloc_new W _, World.ownsRow_nil _ _ _ _, fun k hk => by simp [Value.ownBlock] at hk⟩

/-- Of what was there, block b and what ok allows alone have turned. -/
def KeptNot (ok : Nat → Prop) (b : Nat) (W W' : World) : Prop := W.heap.size ≤ W'.heap.size ∧ ∀ k, k < W.heap.size → k ≠ b → ¬ ok k → W'.heap[k]? = W.heap[k]?

theorem info5 : (Tryz.prog.info? 5).map (fun i => (i.zero, i.size, i.bytes)) = some (some (.int .u8 0), 1, 1) := by kernel_rfl

theorem copyCheck_own (W : World) (B b : Nat) (ok : Nat → Prop) (l : List UInt8) (h : Bld W B b ok l) :
    Calls Tryz.prog 32 #[.pointer (some ⟨b, 0, none⟩)] W fun e W' => e = .returned (.tuple #[]) ∧ (∃ v, W'.heap[b]? = some (.cells #[.pointer (some ⟨b, 0, none⟩), v] 44 (0, 0)) ∧ W'.ownsRow B 5 1 v l.length (byteCells l) ∧ (∀ k, v.ownBlock = some k → ok k)) ∧ Below B W W' ∧ W'.heap.size = W.heap.size ∧ ∀ k, k ≠ b → W'.heap[k]? = W.heap[k]? := by
  obtain ⟨hB, p, v, hp, hb, hown, ho⟩ := h
  rcases hp with rfl | rfl
  · have hbt : BuilderAt 44 5 B b (.pointer none) (byteCells l) W := ⟨hB, v, hb, by rw [byteCells_length]; exact hown, ownBlk_ne hown hb⟩
    refine (Any.Builder_copyCheck_fresh Tryz.lays240 Tryz.Builder_X72_240 b W hbt.cell0 hbt.shape hbt.frozen0).mono ?_
    rintro e W' ⟨rfl, rfl⟩
    obtain ⟨_, v', hb', hown', _⟩ := hbt.used (.pointer (some ⟨b, 0, none⟩))
    have hvv : v' = v := by
      have h1 : (W.setCell ⟨b, 0, none⟩ (.pointer (some ⟨b, 0, none⟩))).heap[b]? = some (.cells #[.pointer (some ⟨b, 0, none⟩), v] 44 (0, 0)) := by
        simp [World.setCell, Array.getElem?_modify, hb]
      rw [hb'] at h1
      simp at h1
      exact h1
    subst hvv
    rw [byteCells_length] at hown'
    exact ⟨rfl, ⟨v', hb', hown', ho⟩, (Below.refl B W).setCell (p := ⟨b, 0, none⟩) hB _, by simp [World.setCell], fun k hk => Below.heap_setCell W ⟨b, 0, none⟩ _ k hk⟩
  · have hc : W.cell? ⟨b, 0, none⟩ = some (.pointer (some ⟨b, 0, none⟩)) := by rw [Lib.cell_of_heap hb]; rfl
    refine (Any.Builder_copyCheck_used Tryz.lays240 Tryz.Builder_X72_240 b W hc).mono ?_
    rintro e W' ⟨rfl, rfl⟩
    exact ⟨rfl, ⟨v, hb, hown, ho⟩, Below.refl _ _, rfl, fun _ _ => rfl⟩

set_option maxHeartbeats 1000000 in
theorem WriteByte_own (W : World) (B b : Nat) (ok : Nat → Prop) (l : List UInt8) (c : UInt8) (h : Bld W B b ok l) (hlen : l.length + 1 ≤ 140737488355328) (hBW : B ≤ W.heap.size) (hok : ∀ k, W.heap.size ≤ k → ok k) :
    Calls Tryz.prog 37 #[.pointer (some ⟨b, 0, none⟩), .int .u8 c.toNat] W fun e W' => e = .returned .nilIface ∧ Bld W' B b ok (l ++ [c]) ∧ Below B W W' ∧ KeptNot ok b W W' := by
  have HB := Lib.hid h.1
  have HH := Lib.hid h
  have hblt : b < W.heap.size := by obtain ⟨_, _, _, _, hb, _⟩ := h; exact (Array.getElem?_eq_some_iff.1 hb).1
  have HOK := Lib.hid hok
  have HBW := Lib.hid hBW
  have HLEN := Lib.hid hlen
  clear h hok hBW hlen
  obtain ⟨i0, hi, hz0, hz1, hz2⟩ := info_parts info5
  have HI := Lib.hid hi
  have HZ0 := Lib.hid hz0
  have HZ1 := Lib.hid hz1
  have HZ2 := Lib.hid hz2
  clear hi hz0 hz1 hz2
  go_enter Tryz.func37, Tryz.ntmps37
  go_wp2_with fail
  refine (copyCheck_own W B b ok l HH.out).mono ?_
  rintro e w1 ⟨rfl, ⟨v, hb1, hown, ho⟩, hbel, hsz, hk⟩
  have c0 : w1.cell? ⟨b, 0, none⟩ = some (.pointer (some ⟨b, 0, none⟩)) := by rw [Lib.cell_of_heap hb1]; rfl
  have c1 : w1.cell? ⟨b, 1, none⟩ = some v := by rw [Lib.cell_of_heap hb1]; rfl
  have hlt1 : b < w1.heap.size := by omega
  have HB1 := Lib.hid hb1
  have HOWN := Lib.hid hown
  have HO := Lib.hid ho
  have HBEL := Lib.hid hbel
  have HSZ := Lib.hid hsz
  have HK := Lib.hid hk
  clear hb1 hown ho hbel hsz hk
  go_wp2_with (at_builtin; refine wpList_append_own_at _ rfl _ _ 42 rfl B 5 i0 (.int .u8 0) 1 1 Tryz.underlying42 HI.out HZ0.out HZ1.out HZ2.out rfl (by decide) _ _ _ rfl (HOWN.out.alloc _) ⟨w1.heap.size, 0, none⟩ 1 1 [.int .u8 c.toNat] rfl rfl ?c1 ?c2 ?c3 ?c4 ?c5 ?_)
  case c1 =>
    intro j u hj
    match j, hj with
    | 0, hj => simp at hj; subst hj; simp [Addr.add]
  case c2 => intro u hu; simp at hu; subst hu; rfl
  case c3 => have := HLEN.out; unfold maxLen; omega
  case c4 => have := HLEN.out; omega
  case c5 => have := HBW.out; have := HSZ.out; simp; omega
  intro v' w2 hown' hgrow _ hat
  have hne : v.ownBlock ≠ some b := ownBlk_ne HOWN.out HB1.out
  have hb2 : w2.heap[b]? = some (.cells #[.pointer (some ⟨b, 0, none⟩), v] 44 (0, 0)) := by
    rw [hgrow.block b (by simp; omega) (fun e => hne e.symm), Lib.alloc_old w1 _ b hlt1]
    exact HB1.out
  have d0 : w2.cell? ⟨b, 0, none⟩ = some (.pointer (some ⟨b, 0, none⟩)) := by rw [Lib.cell_of_heap hb2]; rfl
  have d1 : w2.cell? ⟨b, 1, none⟩ = some v := by rw [Lib.cell_of_heap hb2]; rfl
  have f1 : w2.frozen? ⟨b, 1, none⟩ = false := Lib.frozen_of_heap hb2 1
  obtain ⟨g, cap, rfl⟩ : ∃ g cap, v' = .slice (some ⟨g, 0, none⟩) (l.length + 1) cap := by
    rcases hown'.2 with ⟨_, h0⟩ | ⟨g, cap, cur, hv, _⟩
    · omega
    · exact ⟨g, cap, hv⟩
  have HB2 := Lib.hid hb2
  have HOWN2 := Lib.hid hown'
  have HG := Lib.hid hgrow
  have HAT := Lib.hid hat
  clear hb2 hown' hgrow hat c0 c1
  go_wp2
  go_ret
  have hown3 : w2.ownsRow B 5 1 (.slice (some ⟨g, 0, none⟩) (l.length + 1) cap) (byteCells (l ++ [c])).length (byteCells (l ++ [c])) := by
    have h := HOWN2.out
    rw [byteCells_snoc] at h
    rw [byteCells_length, List.length_append]
    exact h
  obtain ⟨_, v3, hb3, hown4, hne3⟩ := BuilderAt.put (T := 44) (e := 5) HB.out HB2.out hown3 (by decide)
  have hv3 : v3 = .slice (some ⟨g, 0, none⟩) (l.length + 1) cap := by
    have h1 : (w2.setCell ⟨b, 1, none⟩ (.slice (some ⟨g, 0, none⟩) (l.length + 1) cap)).heap[b]? = some (.cells #[.pointer (some ⟨b, 0, none⟩), .slice (some ⟨g, 0, none⟩) (l.length + 1) cap] 44 (0, 0)) := by
      simp [World.setCell, Array.getElem?_modify, HB2.out]
    rw [hb3] at h1
    simp at h1
    exact h1
  subst hv3
  rw [byteCells_length] at hown4
  have hgok : ∀ k, (Value.slice (some ⟨g, 0, none⟩) (l.length + 1) cap).ownBlock = some k → ok k := by
    intro k hk
    rcases HAT.out with h | h
    · exact HO.out k (by rw [← h]; exact hk)
    · rw [hk] at h
      simp at h
      exact HOK.out k (by have := HSZ.out; omega)
  refine ⟨rfl, ⟨HB.out, _, _, .inr rfl, hb3, hown4, hgok⟩, ?_, ?_, ?_⟩
  · exact ((HBEL.out.alloc (by have := HBW.out; have := HSZ.out; omega) _).grown HG.out (by have := HBW.out; have := HSZ.out; simp; omega) (fun k hk => (HOWN.out.lt k hk).1)).setCell (p := ⟨b, 1, none⟩) HB.out _
  · have h1 := HG.out.size
    have h2 := HSZ.out
    simp [World.setCell] at h1 ⊢
    omega
  · intro k hk hkb hkok
    have h1 : k ≠ b := hkb
    rw [Below.heap_setCell w2 ⟨b, 1, none⟩ _ k h1, HG.out.block k (by have := HSZ.out; simp; omega) (fun e => hkok (HO.out k e.symm)), Lib.alloc_old w1 _ k (by have := HSZ.out; omega)]
    exact HK.out k h1
end Go.Proofs.YtlpoglkddknedaaGreatDoor.H

/- MovetextTags walked by hand: the closure that puts a token, with a comment ahead of it where the bit says so. -/
import Derived.Test.YtlpoglkddknedaaDoorPt
import Derived.WalkMore
import Derived.Lib.Hide
namespace Go.Proofs.YtlpoglkddknedaaDoor.G
open Go.RowKit Go.Proofs.YtlpoglkddknedaaDoor.T Go.Proofs.YtlpoglkddknedaaDoor.H Go.Proofs.YtlpoglkddknedaaDoorW.PrintWords Go.Proofs.YtlpoglkddknedaaDoorW.PrintLast
set_option linter.unusedVariables false
set_option linter.unusedSimpArgs false
theorem gi46 : (Tryd.prog.info? 46).map (fun i => (i.zero, i.size, i.bytes)) = some (some (.agg #[(.int .i64 0), (.string ⟨#[]⟩), (.int .i64 0)]), 3, 32) := by kernel_rfl
def bitC (c at_ : Nat) : Bool := decide (c / 2 ^ (at_ % 32) % 2 = 1)
/-- What the closure captures: the bits, the place, the row; and the tags beside. -/
structure PutV (B b4 b7 b9 bx : Nat) (cx : Array Value) (tx : TypeId) (c at_ : Nat) (vw vt : Value) (toks : List S46) (want : List S56) (W w : World) : Prop where
  l4 : b4 < B
  l7 : B ≤ b7
  l9 : B ≤ b9
  ne : b7 ≠ b9
  nx : bx ≠ b7 ∧ bx ≠ b9
  hx : w.heap[bx]? = some (.cells cx tx (0, 0))
  h4 : w.heap[b4]? = some (.cells #[.int .u32 c] 72 (0, 0))
  h9 : w.heap[b9]? = some (.cells #[.int .i64 at_] 3 (0, 0))
  h7 : w.heap[b7]? = some (.cells #[vt] 23 (0, 0))
  bl : Below B W w
  rt : Kd.R k46 46 w B (fun k => (k ≠ b7 ∧ k ≠ b9 ∧ k ≠ bx) ∧ some k ≠ vw.ownBlock) vt toks
  rw_ : Kd.R k56 56 w B (fun k => (k ≠ b7 ∧ k ≠ b9 ∧ k ≠ bx) ∧ some k ≠ vt.ownBlock) vw want
def PutI (B b4 b7 b9 bx : Nat) (cx : Array Value) (tx : TypeId) (c at_ : Nat) (vw : Value) (toks : List S46) (want : List S56) (W w : World) : Prop := ∃ vt, PutV B b4 b7 b9 bx cx tx c at_ vw vt toks want W w
section
variable {B b4 b7 b9 bx : Nat} {cx : Array Value} {tx : TypeId} {c at_ : Nat} {vw vt : Value} {toks : List S46} {want : List S56} {W w : World}
theorem PutV.b7_ (h : PutV B b4 b7 b9 bx cx tx c at_ vw vt toks want W w) : some b7 ≠ vt.ownBlock := Kd.R_away h.rt (fun _ hk => hk.1.1)
theorem PutV.b9_ (h : PutV B b4 b7 b9 bx cx tx c at_ vw vt toks want W w) : some b9 ≠ vt.ownBlock := Kd.R_away h.rt (fun _ hk => hk.1.2.1)
theorem PutV.bx_ (h : PutV B b4 b7 b9 bx cx tx c at_ vw vt toks want W w) : some bx ≠ vt.ownBlock := Kd.R_away h.rt (fun _ hk => hk.1.2.2)
theorem PutV.wx_ (h : PutV B b4 b7 b9 bx cx tx c at_ vw vt toks want W w) : some bx ≠ vw.ownBlock := Kd.R_away h.rw_ (fun _ hk => hk.1.2.2)
theorem PutV.w7_ (h : PutV B b4 b7 b9 bx cx tx c at_ vw vt toks want W w) : some b7 ≠ vw.ownBlock := Kd.R_away h.rw_ (fun _ hk => hk.1.1)
theorem PutV.w9_ (h : PutV B b4 b7 b9 bx cx tx c at_ vw vt toks want W w) : some b9 ≠ vw.ownBlock := Kd.R_away h.rw_ (fun _ hk => hk.1.2.1)
theorem PutV.b4_ (h : PutV B b4 b7 b9 bx cx tx c at_ vw vt toks want W w) : some b4 ≠ vt.ownBlock := fun e => by have := Kd.R_base h.rt b4 e.symm; have := h.l4; omega
theorem PutV.w4_ (h : PutV B b4 b7 b9 bx cx tx c at_ vw vt toks want W w) : some b4 ≠ vw.ownBlock := fun e => by have := Kd.R_base h.rw_ b4 e.symm; have := h.l4; omega
theorem PutV.size (h : PutV B b4 b7 b9 bx cx tx c at_ vw vt toks want W w) : B ≤ w.heap.size := by have := blk_lt h.h7; have := h.l7; omega
theorem PutV.fresh (h : PutV B b4 b7 b9 bx cx tx c at_ vw vt toks want W w) (k : Nat) (hk : w.heap.size ≤ k) : (k ≠ b7 ∧ k ≠ b9 ∧ k ≠ bx) ∧ some k ≠ vw.ownBlock := by
  have h1 := blk_lt h.h7
  have h2 := blk_lt h.h9
  have h3 := blk_lt h.hx
  refine ⟨⟨by omega, by omega, by omega⟩, fun e => ?_⟩
  have := ((Kd.R_bound h.rw_).1 k e.symm).2.2.1
  omega
theorem PutV.freshW (h : PutV B b4 b7 b9 bx cx tx c at_ vw vt toks want W w) (k : Nat) (hk : w.heap.size ≤ k) : (k ≠ b7 ∧ k ≠ b9 ∧ k ≠ bx) ∧ some k ≠ vt.ownBlock := by
  have h1 := blk_lt h.h7
  have h2 := blk_lt h.h9
  have h3 := blk_lt h.hx
  refine ⟨⟨by omega, by omega, by omega⟩, fun e => ?_⟩
  have := ((Kd.R_bound h.rt).1 k e.symm).2.2.1
  omega
/-- The row was appended to, and laid back. -/
theorem PutV.app (h : PutV B b4 b7 b9 bx cx tx c at_ vw vt toks want W w) {x : S46} {v1 : Value} {w1 : World}
    (ho : Kd.R k46 46 w1 B (fun k => (k ≠ b7 ∧ k ≠ b9 ∧ k ≠ bx) ∧ some k ≠ vw.ownBlock) v1 (toks ++ [x])) (hb : Below B W w1) (hg : w.grownBy w1 vt.ownBlock) (hat : v1.ownBlock = vt.ownBlock ∨ ∃ b, v1.ownBlock = some b ∧ w.heap.size ≤ b) :
    PutV B b4 b7 b9 bx cx tx c at_ vw v1 (toks ++ [x]) want W (w1.setCell ⟨b7, 0, none⟩ v1) where
  l4 := h.l4
  l7 := h.l7
  l9 := h.l9
  ne := h.ne
  nx := h.nx
  hx := blk_far (blk_grown h.hx hg h.bx_) h.nx.1 _
  h4 := blk_far (blk_grown h.h4 hg h.b4_) (by have := h.l4; have := h.l7; show b4 ≠ b7; omega) _
  h9 := blk_far (blk_grown h.h9 hg h.b9_) (Ne.symm h.ne) _
  h7 := blk_put (blk_grown h.h7 hg h.b7_) 0 _ rfl
  bl := hb.setCell (p := ⟨b7, 0, none⟩) h.l7 _
  rt := Kd.R_far (p := ⟨b7, 0, none⟩) ho (fun _ hk => hk.1.1) _
  rw_ := Kd.R_far (p := ⟨b7, 0, none⟩) (Kd.R_after h.rw_ hg hat) (fun _ hk => hk.1.1) _
theorem PutV.next (h : PutV B b4 b7 b9 bx cx tx c at_ vw vt toks want W w) {z : Int} (hz : z = ((at_ + 1 : Nat) : Int)) : PutV B b4 b7 b9 bx cx tx c (at_ + 1) vw vt toks want W (w.setCell ⟨b9, 0, none⟩ (.int .i64 z)) where
  l4 := h.l4
  l7 := h.l7
  l9 := h.l9
  ne := h.ne
  nx := h.nx
  hx := blk_far h.hx h.nx.2 _
  h4 := blk_far h.h4 (by have := h.l4; have := h.l9; show b4 ≠ b9; omega) _
  h9 := blk_put h.h9 0 _ (by rw [hz]; rfl)
  h7 := blk_far h.h7 h.ne _
  bl := h.bl.setCell (p := ⟨b9, 0, none⟩) h.l9 _
  rt := Kd.R_far (p := ⟨b9, 0, none⟩) h.rt (fun _ hk => hk.1.2.1) _
  rw_ := Kd.R_far (p := ⟨b9, 0, none⟩) h.rw_ (fun _ hk => hk.1.2.1) _
theorem PutV.below (h : PutV B b4 b7 b9 bx cx tx c at_ vw vt toks want W w) {w1 : World} (hb : Below w.heap.size w w1) : PutV B b4 b7 b9 bx cx tx c at_ vw vt toks want W w1 where
  l4 := h.l4
  l7 := h.l7
  l9 := h.l9
  ne := h.ne
  nx := h.nx
  hx := blk_below h.hx hb
  h4 := blk_below h.h4 hb
  h9 := blk_below h.h9 hb
  h7 := blk_below h.h7 hb
  bl := h.bl.trans (hb.mono h.size)
  rt := Kd.R_below h.rt hb
  rw_ := Kd.R_below h.rw_ hb
/-- The tags were appended to. -/
theorem PutV.wapp (h : PutV B b4 b7 b9 bx cx tx c at_ vw vt toks want W w) {x : S56} {v1 : Value} {w1 : World}
    (ho : Kd.R k56 56 w1 B (fun k => (k ≠ b7 ∧ k ≠ b9 ∧ k ≠ bx) ∧ some k ≠ vt.ownBlock) v1 (want ++ [x])) (hb : Below B W w1) (hg : w.grownBy w1 vw.ownBlock) (hat : v1.ownBlock = vw.ownBlock ∨ ∃ b, v1.ownBlock = some b ∧ w.heap.size ≤ b) :
    PutV B b4 b7 b9 bx cx tx c at_ v1 vt toks (want ++ [x]) W w1 where
  l4 := h.l4
  l7 := h.l7
  l9 := h.l9
  ne := h.ne
  nx := h.nx
  hx := blk_grown h.hx hg h.wx_
  h4 := blk_grown h.h4 hg h.w4_
  h9 := blk_grown h.h9 hg h.w9_
  h7 := blk_grown h.h7 hg h.w7_
  bl := hb
  rt := Kd.R_after h.rt hg hat
  rw_ := ho
/-- A new block beside, in the place of the one beside before. -/
theorem PutV.beside (h : PutV B b4 b7 b9 bx cx tx c at_ vw vt toks want W w) (cs : Array Value) (t : TypeId) : PutV B b4 b7 b9 w.heap.size cs t c at_ vw vt toks want W (w.alloc (.cells cs t)) where
  l4 := h.l4
  l7 := h.l7
  l9 := h.l9
  ne := h.ne
  nx := by have h1 := blk_lt h.h7; have h2 := blk_lt h.h9; exact ⟨by omega, by omega⟩
  hx := by rw [World.alloc]; simp
  h4 := blk_alloc h.h4 _
  h9 := blk_alloc h.h9 _
  h7 := blk_alloc h.h7 _
  bl := h.bl.alloc h.size _
  rt := Kd.R_alloc (Kd.R_mono (Kd.R_bound h.rt) (fun k hk => ⟨⟨hk.1.1.1, hk.1.1.2.1, by have := hk.2.2.1; omega⟩, hk.1.2⟩)) _
  rw_ := Kd.R_alloc (Kd.R_mono (Kd.R_bound h.rw_) (fun k hk => ⟨⟨hk.1.1.1, hk.1.1.2.1, by have := hk.2.2.1; omega⟩, hk.1.2⟩)) _
/-- The block beside was written. -/
theorem PutV.put (h : PutV B b4 b7 b9 bx cx tx c at_ vw vt toks want W w) (hB : B ≤ bx) (i : Nat) (u : Value) (cy : Array Value) (e : cx.setIfInBounds i u = cy) : PutV B b4 b7 b9 bx cy tx c at_ vw vt toks want W (w.setCell ⟨bx, i, none⟩ u) where
  l4 := h.l4
  l7 := h.l7
  l9 := h.l9
  ne := h.ne
  nx := h.nx
  hx := blk_put h.hx i u e
  h4 := blk_far h.h4 (by have := h.l4; show b4 ≠ bx; omega) _
  h9 := blk_far h.h9 (Ne.symm h.nx.2) _
  h7 := blk_far h.h7 (Ne.symm h.nx.1) _
  bl := h.bl.setCell (p := ⟨bx, i, none⟩) hB _
  rt := Kd.R_far (p := ⟨bx, i, none⟩) h.rt (fun _ hk => hk.1.2.2) _
  rw_ := Kd.R_far (p := ⟨bx, i, none⟩) h.rw_ (fun _ hk => hk.1.2.2) _
/-- The cells that the walk reads. -/
theorem PutV.cells (h : PutV B b4 b7 b9 bx cx tx c at_ vw vt toks want W w) : w.cell? ⟨b4, 0, none⟩ = some (.int .u32 c) ∧ w.cell? ⟨b9, 0, none⟩ = some (.int .i64 at_) ∧ w.cell? ⟨b7, 0, none⟩ = some vt ∧ w.frozen? ⟨b9, 0, none⟩ = false ∧ w.frozen? ⟨b7, 0, none⟩ = false :=
  ⟨(blk_cell h.h4 0).trans rfl, (blk_cell h.h9 0).trans rfl, (blk_cell h.h7 0).trans rfl, blk_frozen h.h9 0, blk_frozen h.h7 0⟩
end
theorem wraps_u32 (n : Int) (h₀ : 0 ≤ n) (h₁ : n < 2 ^ 32) : IntKind.u32.wrap n = n := by rw [IntKind.wrap_u32]; omega
theorem u32_and1 {x : Int} (h₀ : 0 ≤ x) (h₁ : x < 4294967296) : bits .and .u32 x 1 = x % 2 := bits_mask .u32 32 (by decide) wraps_u32 1 (by decide) x h₀ h₁
theorem bit_walk (c at_ : Nat) (hc : c < 4294967296) : (bits BinOp.and IntKind.u32 ((c : Int) / 2 ^ (at_ % 32)) 1 == 1) = bitC c at_ := by
  unfold bitC
  have e : (c : Int) / 2 ^ (at_ % 32) = ((c / 2 ^ (at_ % 32) : Nat) : Int) := by simp
  have hl : c / 2 ^ (at_ % 32) ≤ c := Nat.div_le_self _ _
  generalize c / 2 ^ (at_ % 32) = q at hl e ⊢
  rw [e, u32_and1 (by omega) (by omega)]
  rw [Bool.eq_iff_iff, beq_iff_eq, decide_eq_true_iff]
  omega
set_option maxHeartbeats 1000000 in
set_option maxRecDepth 100000 in
theorem put_any (W w : World) (B b4 b7 b9 bx : Nat) (cx : Array Value) (tx : TypeId) (c at_ : Nat) (vw : Value) (toks : List S46) (want : List S56) (kind : Int) (s : ByteArray)
    (h : PutI B b4 b7 b9 bx cx tx c at_ vw toks want W w) (hlen : toks.length ≤ 1000) (ha : at_ ≤ 1000) (hc : c < 4294967296) :
    Calls Tryd.prog 32 #[.int .i64 kind, .string s, .pointer (some ⟨b4, 0, none⟩), .pointer (some ⟨b9, 0, none⟩), .pointer (some ⟨b7, 0, none⟩)] w fun e w' => e = .returned (.tuple #[]) ∧
      PutI B b4 b7 b9 bx cx tx c (at_ + 1) vw (toks ++ (cm (bitC c at_) ⟨kind, s, 0⟩ ++ [⟨kind, s, 0⟩])) want W w' := by
  obtain ⟨vt, hv⟩ := h
  obtain ⟨c4, c9, c7, f9, f7⟩ := hv.cells
  have HV := Lib.hid hv
  clear hv
  have hb := bit_walk c at_ hc
  have HZ := Lib.hid (show ((at_ : Int) + 1) = ((at_ + 1 : Nat) : Int) by omega)
  by_cases d : bitC c at_ = true
  · rw [d] at hb ⊢
    go_enter Tryd.func32, Tryd.ntmps32
    go_wp2_with (first
      | (at_builtin
         refine Kd.R_append k46 (w0 := W) B rfl (.tmp 13) (.tmp 16) 23 46 (.agg #[(.int .i64 0), (.string ⟨#[]⟩), (.int .i64 0)]) 32 rfl Tryd.underlying23 gi46 rfl (by decide) (by omega) vt toks ⟨10, s, 0⟩ [.int .i64 10, .string s, .int .i64 0] (fun k => (k ≠ b7 ∧ k ≠ b9 ∧ k ≠ bx) ∧ some k ≠ vw.ownBlock) (fun _ => False) rfl (by first | (go_simp; done) | (go_simp; rfl)) (k46_mkM _ _ _ ⟨10, s, 0⟩) (fun _ hk => hk.elim) ?aF ?aO ?aB ?aS ?aL ?_
         case aF => exact fun k hk => HV.out.fresh k hk
         case aO => exact HV.out.rt
         case aB => exact HV.out.bl
         case aS => exact HV.out.size
         case aL => omega
         intro v1 w1 ho hb1 hg hat
         obtain ⟨A1, c1, e1⟩ := Kd.R_slice ho
         generalize (toks ++ [(⟨10, s, 0⟩ : S46)]).length = n1 at e1
         subst e1
         have HV1 := Lib.hid (HV.out.app ho hb1 hg hat)
         have d7 : w1.cell? ⟨b7, 0, none⟩ = some vt := (blk_cell (blk_grown HV.out.h7 hg HV.out.b7_) 0).trans rfl
         have g7 : w1.frozen? ⟨b7, 0, none⟩ = false := blk_frozen (blk_grown HV.out.h7 hg HV.out.b7_) 0
         obtain ⟨x4, x9, x7, y9, y7⟩ := HV1.out.cells
         have z7 : ∀ u, ((w1.setCell ⟨b7, 0, none⟩ (.slice A1 n1 c1)).setCell ⟨b9, 0, none⟩ u).cell? ⟨b7, 0, none⟩ = some (.slice A1 n1 c1) := fun u => (blk_cell (blk_far HV1.out.h7 HV1.out.ne u) 0).trans rfl
         clear ho hb1 hg hat c4 c9 c7 f9 f7 x4)
      | (at_builtin
         refine Kd.R_append k46 (w0 := W) B rfl (.tmp 20) (.tmp 24) 23 46 (.agg #[(.int .i64 0), (.string ⟨#[]⟩), (.int .i64 0)]) 32 rfl Tryd.underlying23 gi46 rfl (by decide) (by omega) (.slice A1 n1 c1) (toks ++ [(⟨10, s, 0⟩ : S46)]) ⟨kind, s, 0⟩ [.int .i64 kind, .string s, .int .i64 0] (fun k => (k ≠ b7 ∧ k ≠ b9 ∧ k ≠ bx) ∧ some k ≠ vw.ownBlock) (fun _ => False) rfl (by first | (go_simp; done) | (go_simp; rfl)) (k46_mkM _ _ _ ⟨kind, s, 0⟩) (fun _ hk => hk.elim) ?bF ?bO ?bB ?bS ?bL ?_
         case bF => exact fun k hk => (HV1.out.next (by first | exact HZ.out | rfl | omega)).fresh k hk
         case bO => exact (HV1.out.next (by first | exact HZ.out | rfl | omega)).rt
         case bB => exact (HV1.out.next (by first | exact HZ.out | rfl | omega)).bl
         case bS => exact (HV1.out.next HZ.out).size
         case bL => simp only [List.length_append, List.length_cons, List.length_nil]; omega
         intro v2 w2 ho2 hb2 hg2 hat2
         obtain ⟨A2, c2, e2⟩ := Kd.R_slice ho2
         generalize (toks ++ [(⟨10, s, 0⟩ : S46)] ++ [(⟨kind, s, 0⟩ : S46)]).length = n2 at e2
         subst e2
         have HV2 := Lib.hid ((HV1.out.next (by first | exact HZ.out | rfl | omega)).app ho2 hb2 hg2 hat2)
         have q7 := blk_grown (HV1.out.next (by first | exact HZ.out | rfl | omega)).h7 hg2 (HV1.out.next (by first | exact HZ.out | rfl | omega)).b7_
         have i7 : w2.cell? ⟨b7, 0, none⟩ = some (.slice A1 n1 c1) := (blk_cell q7 0).trans rfl
         have j7 : w2.frozen? ⟨b7, 0, none⟩ = false := blk_frozen q7 0
         clear q7 ho2 hb2 hg2 hat2 x9 x7 y9 y7 z7 d7 g7))
    go_end0
    refine ⟨rfl, .slice A2 n2 c2, ?_⟩
    have h2 := HV2.out
    rw [List.append_assoc] at h2
    exact h2
  · have d' : bitC c at_ = false := by simpa using d
    rw [d'] at hb ⊢
    clear d
    obtain ⟨A1, c1, e1⟩ := Kd.R_slice HV.out.rt
    have HL := Lib.hid hlen
    generalize toks.length = n1 at e1
    subst e1
    have z7 : ∀ u, (w.setCell ⟨b9, 0, none⟩ u).cell? ⟨b7, 0, none⟩ = some (.slice A1 n1 c1) := fun u => (blk_cell (blk_far HV.out.h7 HV.out.ne u) 0).trans rfl
    go_enter Tryd.func32, Tryd.ntmps32
    go_wp2_with (first
      | (at_builtin
         refine Kd.R_append k46 (w0 := W) B rfl (.tmp 20) (.tmp 24) 23 46 (.agg #[(.int .i64 0), (.string ⟨#[]⟩), (.int .i64 0)]) 32 rfl Tryd.underlying23 gi46 rfl (by decide) (by omega) (.slice A1 n1 c1) toks ⟨kind, s, 0⟩ [.int .i64 kind, .string s, .int .i64 0] (fun k => (k ≠ b7 ∧ k ≠ b9 ∧ k ≠ bx) ∧ some k ≠ vw.ownBlock) (fun _ => False) rfl (by first | (go_simp; done) | (go_simp; rfl)) (k46_mkM _ _ _ ⟨kind, s, 0⟩) (fun _ hk => hk.elim) ?bF ?bO ?bB ?bS ?bL ?_
         case bF => exact fun k hk => (HV.out.next (by first | exact HZ.out | rfl | omega)).fresh k hk
         case bO => exact (HV.out.next (by first | exact HZ.out | rfl | omega)).rt
         case bB => exact (HV.out.next (by first | exact HZ.out | rfl | omega)).bl
         case bS => exact (HV.out.next HZ.out).size
         case bL => have := HL.out; omega
         intro v2 w2 ho2 hb2 hg2 hat2
         obtain ⟨A2, c2, e2⟩ := Kd.R_slice ho2
         generalize (toks ++ [(⟨kind, s, 0⟩ : S46)]).length = n2 at e2
         subst e2
         have HV2 := Lib.hid ((HV.out.next (by first | exact HZ.out | rfl | omega)).app ho2 hb2 hg2 hat2)
         have q7 := blk_grown (HV.out.next (by first | exact HZ.out | rfl | omega)).h7 hg2 (HV.out.next (by first | exact HZ.out | rfl | omega)).b7_
         have i7 : w2.cell? ⟨b7, 0, none⟩ = some (.slice A1 n1 c1) := (blk_cell q7 0).trans rfl
         have j7 : w2.frozen? ⟨b7, 0, none⟩ = false := blk_frozen q7 0
         clear q7 ho2 hb2 hg2 hat2 c4 c9 c7 f9 f7 z7))
    go_end0
    refine ⟨rfl, .slice A2 n2 c2, ?_⟩
    exact HV2.out
end Go.Proofs.YtlpoglkddknedaaDoor.G

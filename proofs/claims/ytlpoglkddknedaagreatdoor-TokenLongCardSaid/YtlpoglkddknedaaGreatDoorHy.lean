/- yielded: what the law's own loop over token.All collects, as the plain function yieldF tells it. Condition: yieldF answers. -/
import Derived.Test.YtlpoglkddknedaaGreatDoorHj
namespace Go.Proofs.YtlpoglkddknedaaGreatDoor.H
open Go.RowKit Go.Shelf Go.Proofs.YtlpoglkddknedaaGreatDoor.T Go.Proofs.YtlpoglkddknedaaGreatDoorW.PrintWords Go.Proofs.YtlpoglkddknedaaGreatDoorW.PrintLast
attribute [local go_sem] Oper.semAt_some
set_option linter.unusedVariables false
set_option linter.unusedSimpArgs false

def yieldF (s : ByteArray) : Option (List S31) :=
  if s.size ≤ 140737488351232 then (scanN (s.size + 2) s 0).bind fun x => if x.1.length ≤ s.size ∧ (x.1.length + 1) * 32 ≤ 140737488355328 then some x.1 else none else none

/-- an append to a row of the call's own, inside a fence -/
theorem RIn_append {F : Fence} {nF : Nat} {P : Program} {ops : Array Oper} {rest : List Oper} {o : Oper} {a : Act} {Q : Exit → Act → World → Prop} {α : Type} (d : Kd α) {w0 W : World} (base : Nat) (hgd : o.guard = none) (s x : Operand) (t e : TypeId) (z : Value) (bytes : Nat)
    (ho : o.op = .call { callee := .builtin .append, args := #[s, x], argTypes := #[t, t] })
    (ht : P.underlying t = some (.slice e)) (hinfo : (P.info? e).map (fun i => (i.zero, i.size, i.bytes)) = some (some z, d.sz, bytes)) (hz : z.cells.size = d.sz) (hs0 : 0 < d.sz) (hb0 : 0 < bytes)
    (v : Value) (xs : List α) (p : α) (cs : List Value) (ok okp : Nat → Prop) (hs : a.eval s = v) (hx : a.eval x = .slice (some ⟨W.heap.size, 0, none⟩) 1 1) (hp : d.M W base okp p cs) (hokp : ∀ k, okp k → ok k ∧ some k ≠ v.ownBlock) (hfresh : ∀ k, W.heap.size ≤ k → ok k)
    (HO : d.R e W base ok v xs) (HB : Below base w0 W) (hbase : base ≤ W.heap.size) (hl : (xs.length + 1) * bytes ≤ 140737488355328)
    (h : ∀ v1 w1, d.R e w1 base ok v1 (xs ++ [p]) → Below base w0 w1 → W.grownBy w1 v.ownBlock → (v1.ownBlock = v.ownBlock ∨ ∃ b, v1.ownBlock = some b ∧ W.heap.size ≤ b) → wpListIn F nF P ops Q rest (a.put o.dst v1) w1) :
    wpListIn F nF P ops Q (o :: rest) a (W.alloc (.cells cs.toArray e)) := by
  obtain ⟨h0, inner, hown, hr⟩ := HO
  obtain ⟨i0, hi, hzz⟩ := Option.map_eq_some_iff.1 hinfo
  simp only [Prod.mk.injEq] at hzz
  obtain ⟨hz0, hz1, hz2⟩ := hzz
  have hys := d.K_len (d.K_of_M hp)
  have hlen : xs.length + 1 ≤ 140737488355328 := Nat.le_trans (Nat.le_mul_of_pos_right _ hb0) hl
  refine wpListIn_append_own_at (W.alloc (.cells cs.toArray e)) hgd s x t ho base e i0 z d.sz bytes ht hi hz0 hz1 hz2 hz hs0 v xs.length inner hs (hown.alloc _) ⟨W.heap.size, 0, none⟩ 1 1 cs hx (by rw [hys]; simp)
    (by simpa using World.news_of_block (cs := cs.toArray) (t := e) (fr := (0, 0)) (heap_alloc_new W (.cells cs.toArray e))) (d.K_one (d.K_of_M hp)) (by simp only [maxLen]; omega) hl (by simp; omega) ?_
  intro v1 w1 hown1 hg _ hat
  have hg1 := World.grownBy.trans (World.grownBy_alloc W (.cells cs.toArray e) v.ownBlock) hg
  have hat1 : v1.ownBlock = v.ownBlock ∨ ∃ b, v1.ownBlock = some b ∧ W.heap.size ≤ b := by
    rcases hat with hat | hat
    · exact .inl hat
    · exact .inr ⟨_, hat, by simp⟩
  exact h v1 w1 (Kd.R_appended h0 hr hp hokp hfresh hown1 hg1 hat1) ((HB.alloc hbase _).grown hg (by simp; omega) (own_base hown)) hg1 hat1

/-- A block of cells, and a variable of tokens, abide the turn of whatever holds no cells. -/
theorem blk_own {W W' : World} {b B0 : Nat} {cs : Array Value} {t : TypeId} {fz : Nat × Nat} {row : Option Nat} (h : W.heap[b]? = some (.cells cs t fz)) (hg : W.grownBy W' row) (hr : ∀ r, row = some r → B0 ≤ r ∧ ∃ o : Obj, W.heap[r]? = some o ∧ o.isCells = false) : W'.heap[b]? = some (.cells cs t fz) := by
  refine (hg.block b (blk_lt h) (fun e => ?_)).trans h
  obtain ⟨_, o, ho, hc⟩ := hr b e.symm
  rw [h] at ho
  cases ho
  cases hc
theorem R_own {W W' : World} {base e v : _} {ok : Nat → Prop} {B0 : Nat} {toks : List S31} {row : Option Nat} (hR : Kd.R k31 e W base ok v toks) (hg : W.grownBy W' row) (hr : ∀ r, row = some r → B0 ≤ r ∧ ∃ o : Obj, W.heap[r]? = some o ∧ o.isCells = false) : Kd.R k31 e W' base ok v toks := by
  refine Kd.R_mono (Kd.R_step (Kd.R_bound hR) (fun k hk hlt => hg.block k hlt (fun e => ?_))) (fun _ hk => hk.1)
  obtain ⟨_, _, _, q, _, cells, hc⟩ := hk
  obtain ⟨_, o, ho, hoc⟩ := hr k e.symm
  rw [hc] at ho
  cases ho
  cases hoc
theorem TokBox.own {W W' : World} {B b B0 : Nat} {toks : List S31} {row : Option Nat} (h : TokBox W B b toks) (hg : W.grownBy W' row) (hr : ∀ r, row = some r → B0 ≤ r ∧ ∃ o : Obj, W.heap[r]? = some o ∧ o.isCells = false) : TokBox W' B b toks := by
  obtain ⟨hB, v, hv, hR⟩ := h
  exact ⟨hB, v, blk_own hv hg hr, R_own hR hg hr⟩

set_option maxRecDepth 100000 in
set_option maxHeartbeats 4000000 in
theorem yielded_calls (a0 : ByteArray) (r : List (S31)) (w : World) (h : yieldF a0 = some r) :
    Calls Tryz.prog 9 #[.string a0] w fun e w' => ∃ v0_ : Value, e = .returned (v0_) ∧ Kd.R k31 31 w' w.heap.size (fun _ => True) v0_ r ∧ Below w.heap.size w w' := by
  unfold yieldF at h
  split at h
  · rename_i hs
    obtain ⟨x, hx, h⟩ := Option.bind_eq_some_iff.1 h
    obtain ⟨toks, R⟩ := x
    split at h
    · rename_i hlen
      obtain ⟨hl1, hl2⟩ := hlen
      obtain rfl := Option.some.inj h
      dsimp only at hl1 hl2 ⊢
      have HX := Lib.hid hx
      clear hx
      refine (callsIn_wide (n := 5)).1 ?_
      refine callsIn_of_wp_marks Tryz.func9 rfl trivial ?_ rfl
      simp only [Tryz.ntmps9, List.size_toArray, List.length_cons, List.length_nil, Nat.reduceAdd, Nat.reduceSub, Array.replicate_succ, Array.replicate_zero, List.push_toArray, List.append_toArray, List.nil_append, List.cons_append]
      gi_wp2_with (refine ⟨trivial, ?_⟩; gi_at_call 19; refine (callsIn_wide.2 (seq_calls _ _)).mono ?_; rintro e w' ⟨rfl, rfl⟩)
      have hs1 : (((w.alloc (Obj.cells #[Value.string a0] 9)).alloc (Obj.cells #[Value.slice none 0 0] 23)).alloc (Obj.cells #[Value.string a0] 9)).heap[w.heap.size]? = some (.cells #[.string a0] 9 (0, 0)) := blk_alloc (blk_alloc (blk_new w _) _) _
      have hb0 : Below w.heap.size w (((w.alloc (Obj.cells #[Value.string a0] 9)).alloc (Obj.cells #[Value.slice none 0 0] 23)).alloc (Obj.cells #[Value.string a0] 9)) := (((Below.refl _ w).alloc (Nat.le_refl _) _).alloc (by simp) _).alloc (by simp; omega) _
      have hbx : TokBox (((w.alloc (Obj.cells #[Value.string a0] 9)).alloc (Obj.cells #[Value.slice none 0 0] 23)).alloc (Obj.cells #[Value.string a0] 9)) w.heap.size (w.heap.size + 1) [] :=
        ⟨by omega, _, blk_alloc (by have := blk_new (w.alloc (Obj.cells #[Value.string a0] 9)) (Obj.cells #[Value.slice none 0 0] 23); rw [World.size_alloc] at this; exact this) _, Kd.R_nil _ _ _ _ _⟩
      have hal : (((w.alloc (Obj.cells #[Value.string a0] 9)).alloc (Obj.cells #[Value.slice none 0 0] 23)).alloc (Obj.cells #[Value.string a0] 9)).heap[w.heap.size + 1 + 1]? = some (.cells #[.string a0] 9 (0, 0)) := by
        have := blk_new ((w.alloc (Obj.cells #[Value.string a0] 9)).alloc (Obj.cells #[Value.slice none 0 0] 23)) (Obj.cells #[Value.string a0] 9); rw [World.size_alloc, World.size_alloc] at this; exact this
      have hsz : (((w.alloc (Obj.cells #[Value.string a0] 9)).alloc (Obj.cells #[Value.slice none 0 0] 23)).alloc (Obj.cells #[Value.string a0] 9)).heap.size = w.heap.size + 3 := by simp
      generalize (((w.alloc (Obj.cells #[Value.string a0] 9)).alloc (Obj.cells #[Value.slice none 0 0] 23)).alloc (Obj.cells #[Value.string a0] 9)) = W3 at *
      refine wpIn_rangeFunc_ownH rfl (by omega) (gf := 54) (lb := #[.pointer (some ⟨w.heap.size + 1 + 1, 0, none⟩)]) rfl trivial (enters_of Tryz.func54 (by kernel_rfl) rfl)
        (all1_stops a0 hs _ (w.heap.size + 1 + 1) w.heap.size toks R ⟨_, HX.out⟩ W3 hal) belowK_t (belowK_b (by omega)) (Below.refl _ _) (fun _ => rfl)
        (fun pre W => W.heap[w.heap.size]? = some (.cells #[.string a0] 9 (0, 0)) ∧ TokBox W w.heap.size (w.heap.size + 1) pre ∧ Below w.heap.size w W)
        (fun _ _ _ => False)
        (fun pre W W' row h hg hr => ⟨blk_own h.1 hg hr, h.2.1.own hg hr, h.2.2.grown hg h.2.2.size (fun k e => Nat.le_trans hb0.size (hr k e).1)⟩)
        (fun _ _ _ _ _ h _ _ => h) ⟨hs1, hbx, hb0⟩
        (fun x a' W => ∃ Bx, w.heap.size + 1 < Bx ∧ W.heap[Bx]? = some (.cells #[.int .i64 x.f0, .string x.f1, .int .i64 x.f2] 31 (0, 0)) ∧
          a' = { tmps := #[.string a0, .pointer (some ⟨w.heap.size, 0, none⟩), .slice none 0 0, .pointer (some ⟨w.heap.size + 1, 0, none⟩), .pointer (some ⟨Bx, 0, none⟩), .string a0,
            .func (.func 54) #[] #[.pointer (some ⟨w.heap.size + 1 + 1, 0, none⟩)], encT x, undef, undef, undef, undef, undef, undef, undef, undef, undef, undef], defers := [] })
        (fun x a' _ W W' row h hg hr => by obtain ⟨Bx, h1, h2, h3⟩ := h; exact ⟨Bx, h1, blk_own h2 hg hr, h3⟩) ?assign ?body ?done ?stop
      case assign =>
        rintro l pre x W K ⟨hi1, hi2, hi3⟩ hK
        have HK := Lib.hid hK
        have hu := Tryz.underlying31
        have hsz3 := hi3.size
        have HI1 := Lib.hid hi1
        have HI2 := Lib.hid hi2
        have HI3 := Lib.hid hi3
        have HLT := Lib.hid (show w.heap.size + 1 < W.heap.size by obtain ⟨_, _, hv, _⟩ := hi2; exact blk_lt hv)
        clear hK hi1 hi2 hi3
        simp only [encT]
        gi_wp2
        refine HK.out _ _ ((KeepsOthers.alloc _ _).from _) ((Below.refl _ _).alloc hsz3 _) ⟨blk_alloc HI1.out _, HI2.out.below ((Below.refl _ _).alloc (Nat.le_refl _) _), HI3.out.alloc hsz3 _⟩ ⟨W.heap.size, HLT.out, blk_new W _, rfl⟩
      case body =>
        rintro l pre x a' W hl ⟨rr, hrr⟩ ⟨hi1, hi2, hi3⟩ ⟨Bx, hBx, hbX, rfl⟩ hlt
        obtain ⟨hB, v, hv, hRR⟩ := hi2
        have hc1 := (blk_cell hv 0).trans (show #[v][0]? = some v from rfl)
        have hf1 := blk_frozen hv 0
        have hx0 := (blk_cell hbX 0).trans (show #[Value.int .i64 x.f0, .string x.f1, .int .i64 x.f2][0]? = some (.int .i64 x.f0) from rfl)
        have hx1 := (blk_cell hbX 1).trans (show #[Value.int .i64 x.f0, .string x.f1, .int .i64 x.f2][1]? = some (.string x.f1) from rfl)
        have hx2 := (blk_cell hbX 2).trans (show #[Value.int .i64 x.f0, .string x.f1, .int .i64 x.f2][2]? = some (.int .i64 x.f2) from rfl)
        have hu := Tryz.underlying31
        have hltX := blk_lt hbX
        have hltV := blk_lt hv
        have hlt1 := blk_lt hi1
        have hsz4 := hi3.size
        have HV := Lib.hid hv
        have HX2 := Lib.hid hbX
        have HI1 := Lib.hid hi1
        have HI3 := Lib.hid hi3
        have HRR := Lib.hid hRR
        clear hv hbX hi1 hi3 hRR hB hrr
        gi_wp2_with (first
          | (gi_at_builtin
             refine RIn_append k31 (w0 := w) w.heap.size rfl (.tmp 8) (.tmp 10) 23 31 (.agg #[(.int .i64 0), (.string ⟨#[]⟩), (.int .i64 0)]) 32 rfl Tryz.underlying23 info31 rfl (by decide) (by omega) v pre x [.int .i64 x.f0, .string x.f1, .int .i64 x.f2] (fun k => k ≠ w.heap.size + 1) (fun _ => False) rfl (by first | (go_simp; done) | (go_simp; rfl)) (k31_mkM _ _ _ x) (fun _ hk => hk.elim) ?aF HRR.out HI3.out HI3.out.size ?aL ?_
             case aF => exact fun k hk => by omega
             case aL => omega
             intro v1 w1 ho hb hg hat
             have hv1 := Lib.hid (blk_grown HV.out hg (Kd.R_away HRR.out (fun _ hk => hk)))
             have hi1' := Lib.hid (blk_grown HI1.out hg (Kd.R_ne HRR.out HI1.out (by decide)))
             obtain ⟨A1, c1, rfl⟩ := Kd.R_slice ho
             have hc2 : w1.cell? ⟨w.heap.size + 1, 0, none⟩ = some v := (blk_cell hv1.out 0).trans rfl
             have hf2 := blk_frozen hv1.out 0
             have hc3 : w1.cell? ⟨w.heap.size, 0, none⟩ = some (.string a0) := (blk_cell hi1'.out 0).trans rfl
             have HO := Lib.hid ho
             have HB1 := Lib.hid hb
             have HG := Lib.hid hg
             clear ho hb hg hat hc1 hf1 hx0 hx1 hx2))
        have HO2 : Kd.R k31 31 w1 w.heap.size (fun k => k ≠ w.heap.size + 1) (.slice A1 (pre.length + 1) c1) (pre ++ [x]) := by
          have h := HO.out
          rw [List.length_append] at h
          exact h
        refine ⟨((KeepsOthers.of_grownBy HG.out (fun j o e h => ?_)).trans (KeepsOthers.setCell _ _ _)).from _, ?_, ?_, ?_, ?_⟩
        · obtain ⟨inner, ho⟩ := Kd.R_own HRR.out
          obtain ⟨cells, hc⟩ := own_typed ho j e
          rw [hc] at h
          cases h
          rfl
        · exact ((Below.refl _ _).grown HG.out HI3.out.size (fun k e => by obtain ⟨inner, ho⟩ := Kd.R_own HRR.out; exact own_base ho k e)).setCell (p := ⟨w.heap.size + 1, 0, none⟩) (by simp) _
        · exact blk_far hi1'.out (p := ⟨w.heap.size + 1, 0, none⟩) (by simp) _
        · exact ⟨by omega, .slice A1 (pre.length + 1) c1, blk_put hv1.out 0 _ rfl, Kd.R_far (p := ⟨w.heap.size + 1, 0, none⟩) HO2 (fun _ hk => hk) _⟩
        · exact HB1.out.setCell (p := ⟨w.heap.size + 1, 0, none⟩) (by simp) _
      case done =>
        rintro D ys W hD rfl ⟨hi1, hi2, hi3⟩ hK
        obtain ⟨hB, v, hv, hRR⟩ := hi2
        have hc := (blk_cell hv 0).trans (show #[v][0]? = some v from rfl)
        have HI3 := Lib.hid hi3
        have HRR := Lib.hid hRR
        have HKK := Lib.hid hK
        clear hi1 hi3 hv hRR hB hK
        gi_wp2
        refine ⟨by simp, .inl ⟨_, _, rfl, run_takeDeferred HKK.out, ?_⟩⟩
        refine ⟨_, results_tmp rfl _ _ _, v, rfl, Kd.R_mono (R_own HRR.out (grownBy_putObj' W D (.deferred none)) (B0 := 0) (fun r e => by cases e; exact ⟨Nat.zero_le _, _, HKK.out, rfl⟩)) (fun _ _ => trivial), HI3.out.grown (grownBy_putObj' W D (.deferred none)) HI3.out.size (fun k e => by cases e; omega)⟩
      case stop =>
        rintro D c pre W hD _ h _
        exact h.elim
    · cases h
  · cases h
end Go.Proofs.YtlpoglkddknedaaGreatDoor.H

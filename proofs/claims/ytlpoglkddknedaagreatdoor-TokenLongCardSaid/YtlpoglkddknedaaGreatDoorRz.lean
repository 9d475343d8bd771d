/- sync.Once's parts at this seat: the lock taken and let go, done stored; each a contract of its own. Turned from the guide's worked example (Lazy). · strings.Replacer at this seat: sync.Once's first call, which builds. Turned from the guide's worked example (Lazy). · strings.Replacer.build at this seat: the four strings of the law's quoting. · The plain law of the quoting replacer. No program in sight. · byteStringReplacer.Replace walked: quotes and backslashes are escaped. · strings.NewReplacer and Replace, as the law's quoting calls them: what quote_call answers. · strings.NewReplacer walked, at the four strings of the law's quoting. -/
import Derived.Test.YtlpoglkddknedaaGreatDoorTx0
import Derived.Tactics
import Derived.Tactics2
import Derived.Defers
import Derived.Laws.Pointers
import Derived.Laws.LoneSync
import Derived.RegionTactic
import Derived.RegionCalls
import Derived.ChangeAlike
import Derived.Test.YtlpoglkddknedaaGreatDoorHq
import Derived.LoopN
import Derived.Laws.CopyOwn
import Derived.Laws.Tables
import Derived.IntWalk
namespace Go.Proofs.YtlpoglkddknedaaGreatDoor.R
open Go.RowKit Go.Proofs.YtlpoglkddknedaaGreatDoor.T Go.Proofs.YtlpoglkddknedaaGreatDoorW.PrintWords Go.Proofs.YtlpoglkddknedaaGreatDoorW.PrintLast
set_option linter.unusedVariables false
set_option linter.unusedSimpArgs false
theorem disable (w : World) : (callFunc 87 #[]).run Tryz.prog w = .ok (.value (.tuple #[])) w := run_call_mark0 Tryz.func87 (by kernel_rfl) (by kernel_rfl) (by kernel_rfl) .disable (by kernel_rfl) w
theorem enable (w : World) : (callFunc 89 #[]).run Tryz.prog w = .ok (.value (.tuple #[])) w := run_call_mark0 Tryz.func89 (by kernel_rfl) (by kernel_rfl) (by kernel_rfl) .enable (by kernel_rfl) w
theorem acquire (a : Addr) (w : World) : (callFunc 90 #[.pointer (some a)]).run Tryz.prog w = .ok (.value (.tuple #[])) w := run_call_marked Tryz.func90 (by kernel_rfl) (by kernel_rfl) (by kernel_rfl) .acquire (by kernel_rfl) a w
theorem releaseMerge (a : Addr) (w : World) : (callFunc 92 #[.pointer (some a)]).run Tryz.prog w = .ok (.value (.tuple #[])) w := run_call_marked Tryz.func92 (by kernel_rfl) (by kernel_rfl) (by kernel_rfl) .releaseMerge (by kernel_rfl) a w
set_option maxRecDepth 100000 in
set_option maxHeartbeats 1600000 in
/-- '(*sync/atomic.Bool).Store(true)', entered as a deferred call: the cell holds 1. -/
theorem store_deferred (a : Addr) (x : Value) (u : FrameMode) (w : World) (hc : w.cell? a = some x) (hz : w.frozen? a = false) :
    CallsD Tryz.prog 69 #[.pointer (some a), .bool true] u w fun e u' w' => u' = u ∧ (e = .returned (.tuple #[]) ∧ w' = w.drew.setCell a (.int .u32 1)) := by
  have hc' : w.drew.cell? a = some x := by go_simp
  have hz' : w.drew.frozen? a = false := by go_simp
  have hst := run_call_store (P := Tryz.prog) Tryz.func79 (by kernel_rfl) (by kernel_rfl) (by kernel_rfl) (by kernel_rfl) (k := .u32) (y := 1) hc' hz'
  go_enter_d Tryz.func69, Tryz.ntmps69
  go_wp2
  go_region_calls
  all_goals (go_end0; exact ⟨rfl, rfl⟩)
set_option maxRecDepth 100000 in
set_option maxHeartbeats 1600000 in
/-- '(*sync.Mutex).Unlock', entered as a deferred call, the lock held and nobody waiting (state 1): state 0. -/
theorem unlock_deferred (a : Addr) (u : FrameMode) (w : World) (hc : w.cell? a = some (.int .i32 1)) (hz : w.frozen? a = false) :
    CallsD Tryz.prog 68 #[.pointer (some a)] u w fun e u' w' => u' = u ∧ (e = .returned (.tuple #[]) ∧ w' = w.setCell a (.int .i32 0)) := by
  have hd := disable
  have he := enable
  have hr := releaseMerge
  have hadd := run_call_add (P := Tryz.prog) Tryz.func93 (by kernel_rfl) (by kernel_rfl) (by kernel_rfl) .i32 (by kernel_rfl) (y := -1) (s := 0) hc hz (by simp [go_sem]; rfl)
  have hcv := run_convert_to_unsafe (P := Tryz.prog) (src := 159) (dst := 110) Tryz.underlying159 Tryz.underlying110 (by kernel_rfl) hc
  go_enter_d Tryz.func68, Tryz.ntmps68
  go_wp2
  go_end0
  go_wp2
  go_end0
  exact ⟨rfl, rfl⟩
set_option maxRecDepth 100000 in
set_option maxHeartbeats 1600000 in
/-- '(*sync.Mutex).Lock', the lock free (state 0): state 1. -/
theorem lock_free (a : Addr) (w : World) (hc : w.cell? a = some (.int .i32 0)) (hz : w.frozen? a = false) :
    Calls Tryz.prog 67 #[.pointer (some a)] w fun e w' => e = .returned (.tuple #[]) ∧ w' = w.setCell a (.int .i32 1) := by
  have hd := disable
  have he := enable
  have ha := acquire
  have hcas := run_call_cas_hit (P := Tryz.prog) Tryz.func88 (by kernel_rfl) (by kernel_rfl) (by kernel_rfl) .i32 (by kernel_rfl) (y := 1) hc hz
  have hc' : (w.setCell a (.int .i32 1)).cell? a = some (.int .i32 1) := World.cell?_setCell_same w a _ hc
  have hcv := run_convert_to_unsafe (P := Tryz.prog) (src := 159) (dst := 110) Tryz.underlying159 Tryz.underlying110 (by kernel_rfl) hc'
  go_enter Tryz.func67, Tryz.ntmps67
  go_wp2
  first | go_end0 | (simp only [Exit.inBlock, Exit.then]; refine bodyPost_ret (results_none rfl _ _ _) rfl ?_) | refine bodyPost_ret (results_none rfl _ _ _) rfl ?_
  go_wp2
  go_end0
  exact ⟨rfl, rfl⟩
end Go.Proofs.YtlpoglkddknedaaGreatDoor.R

namespace Go.Proofs.YtlpoglkddknedaaGreatDoor.R
open Go.RowKit Go.Proofs.YtlpoglkddknedaaGreatDoor.T Go.Proofs.YtlpoglkddknedaaGreatDoorW.PrintWords Go.Proofs.YtlpoglkddknedaaGreatDoorW.PrintLast
set_option linter.unusedVariables false
set_option linter.unusedSimpArgs false
set_option maxRecDepth 100000 in
set_option maxHeartbeats 1600000 in
/-- buildOnce: what build answers is laid, the old strings are let go. -/
theorem buildOnce_call (g : Nat) (w : World) (c0 c1 c2 c3 c4 : Value) (h : w.heap[g]? = some (.cells #[c0, c1, c2, c3, c4] 100 (0, 0))) (Q : Nat → World → Prop)
    (hb : Calls Tryz.prog 58 #[.pointer (some ⟨g, 0, none⟩)] w fun e w' => ∃ b, e = .returned (.iface 137 (.pointer (some ⟨b, 0, none⟩))) ∧ w'.heap[g]? = some (.cells #[c0, c1, c2, c3, c4] 100 (0, 0)) ∧ Q b w') :
    Calls Tryz.prog 44 #[.pointer (some ⟨g, 0, none⟩)] w fun e w' => e = .returned (.tuple #[]) ∧ ∃ b w1, Q b w1 ∧ w1.heap[g]? = some (.cells #[c0, c1, c2, c3, c4] 100 (0, 0)) ∧ w' = (w1.setCell ⟨g, 3, none⟩ (.iface 137 (.pointer (some ⟨b, 0, none⟩)))).setCell ⟨g, 4, none⟩ (.slice none 0 0) := by
  have HB := Aside0.mk hb
  clear hb
  go_enter Tryz.func44, Tryz.ntmps44
  go_wp2_with (go_at_call 58; (with_reducible refine HB.out.mono ?_); rintro e w1 ⟨b, rfl, hg, hq⟩; have HQ := Aside0.mk hq; have x3 : w1.cell? ⟨g, 3, none⟩ = some c3 := (blk_cell hg 3).trans rfl; have y3 : w1.frozen? ⟨g, 3, none⟩ = false := blk_frozen hg 3; have x4 : (w1.setCell ⟨g, 3, none⟩ (.iface 137 (.pointer (some ⟨b, 0, none⟩)))).cell? ⟨g, 4, none⟩ = some c4 := (World.cell?_setCell_other _ ⟨g, 3, none⟩ ⟨g, 4, none⟩ _ (by simp)).trans ((blk_cell hg 4).trans rfl); have y4 : w1.frozen? ⟨g, 4, none⟩ = false := blk_frozen hg 4; have HG := Aside0.mk hg; clear hq hg)
  go_end0
  exact ⟨rfl, b, w1, HQ.out, HG.out, rfl⟩
theorem load_call (a : Addr) (x : Int) (w : World) (h : w.cell? a = some (.int .u32 x)) (y : Bool) (hy : (x != 0) = y) : Calls Tryz.prog 56 #[.pointer (some a)] w fun e w' => e = .returned (.bool y) ∧ w' = w := by
  have hl := run_call_load (P := Tryz.prog) Tryz.func66 (by kernel_rfl) (by kernel_rfl) (by kernel_rfl) .u32 (by kernel_rfl) h
  go_enter Tryz.func56, Tryz.ntmps56
  go_wp2
  go_ret
  exact ⟨rfl, rfl⟩
/-- The block of a Replacer: done, the lock, what it builds, the old strings. -/
abbrev RB (w : World) (g : Nat) (d s : Int) (r on : Value) : Prop := w.heap[g]? = some (.cells #[.int .u32 d, .int .i32 s, .int .u32 0, r, on] 100 (0, 0))
abbrev built (w1 : World) (g b : Nat) : World := (w1.setCell ⟨g, 3, none⟩ (.iface 137 (.pointer (some ⟨b, 0, none⟩)))).setCell ⟨g, 4, none⟩ (.slice none 0 0)
theorem built_RB {w1 : World} {g b : Nat} {d s : Int} {r on : Value} (h : RB w1 g d s r on) : RB (built w1 g b) g d s (.iface 137 (.pointer (some ⟨b, 0, none⟩))) (.slice none 0 0) := blk_put (blk_put h 3 _ rfl) 4 _ rfl
set_option maxRecDepth 100000 in
set_option maxHeartbeats 1600000 in
theorem slow_call (g : Nat) (W : World) (on : Value) (Q : Nat → World → Prop) (h : RB W g 0 0 .nilIface on)
    (hb : Calls Tryz.prog 44 #[.pointer (some ⟨g, 0, none⟩)] (W.setCell ⟨g, 1, none⟩ (.int .i32 1)) fun e w' => e = .returned (.tuple #[]) ∧ ∃ b w1, Q b w1 ∧ RB w1 g 0 1 .nilIface on ∧ w' = built w1 g b) :
    Calls Tryz.prog 57 #[.pointer (some ⟨g, 0, none⟩), .func (.func 44) #[.pointer (some ⟨g, 0, none⟩)] #[]] W fun e w' => e = .returned (.tuple #[]) ∧
      ∃ b w1, Q b w1 ∧ RB w1 g 0 1 .nilIface on ∧ w' = ((built w1 g b).drew.setCell ⟨g, 0, none⟩ (.int .u32 1)).setCell ⟨g, 1, none⟩ (.int .i32 0) := by
  have hl := load_call ⟨g, 0, none⟩ 0 (W.setCell ⟨g, 1, none⟩ (.int .i32 1)) ((World.cell?_setCell_other _ ⟨g, 1, none⟩ ⟨g, 0, none⟩ _ (by simp)).trans ((blk_cell h 0).trans rfl)) false rfl
  have HLD := Aside0.mk hl
  clear hl
  have c1 : W.cell? ⟨g, 1, none⟩ = some (.int .i32 0) := (blk_cell h 1).trans rfl
  have f1 : W.frozen? ⟨g, 1, none⟩ = false := blk_frozen h 1
  have hnot : ∀ (x : Bool) (w : World), (Op.unary .not (.bool x)).run Tryz.prog w = .ok (.bool (!x)) w := fun _ _ => rfl
  have HB := Aside0.mk hb
  clear hb h
  go_enter_defers Tryz.func57, Tryz.ntmps57
  go_wp2_with (first
    | (go_at_call 67; (with_reducible refine (lock_free ⟨g, 1, none⟩ _ c1 f1).mono ?_); rintro e w' ⟨rfl, rfl⟩)
    | (go_at_call 56; (with_reducible refine HLD.out.mono ?_); rintro e w' ⟨rfl, rfl⟩)
    | (go_at_call 44; (with_reducible refine HB.out.mono ?_); rintro e w2 ⟨rfl, b, w1, hq, h1, rfl⟩; have HQ := Aside0.mk hq; have H1 := Aside0.mk h1; clear hq h1))
  have hR := built_RB (b := b) H1.out
  have hC := blk_drew hR
  refine leaves_cons (f := 69) (args := #[.pointer (some ⟨g, 0, none⟩), .bool true]) (by simp) (by simp [go_sem]) ?_
  refine (store_deferred ⟨g, 0, none⟩ (.int .u32 0) .returning _ ((blk_cell hR 0).trans rfl) (blk_frozen hR 0)).mono ?_
  rintro e u' w'' ⟨rfl, rfl, rfl⟩
  have hS := blk_put hC 0 (.int .u32 1) rfl
  refine leaves_cons (f := 68) (args := #[.pointer (some ⟨g, 1, none⟩)]) (by simp [settle]) (by simp [go_sem]) ?_
  refine (unlock_deferred ⟨g, 1, none⟩ _ _ ((blk_cell hS 1).trans rfl) (blk_frozen hS 1)).mono ?_
  rintro e u' w'' ⟨rfl, rfl, rfl⟩
  have HF := Aside0.mk (And.intro HQ.out H1.out)
  simp [Leaves, settle, results, Tryz.results57]
  exact ⟨b, w1, HF.out.1, HF.out.2, rfl⟩
abbrev done_ (w1 : World) (g b : Nat) : World := ((built w1 g b).drew.setCell ⟨g, 0, none⟩ (.int .u32 1)).setCell ⟨g, 1, none⟩ (.int .i32 0)
theorem done_RB {w1 : World} {g b : Nat} {on : Value} (h : RB w1 g 0 1 .nilIface on) : RB (done_ w1 g b) g 1 0 (.iface 137 (.pointer (some ⟨b, 0, none⟩))) (.slice none 0 0) := blk_put (blk_put (blk_drew (built_RB h)) 0 _ rfl) 1 _ rfl
set_option maxRecDepth 100000 in
set_option maxHeartbeats 1600000 in
theorem do_call (g : Nat) (W : World) (on : Value) (Q : Nat → World → Prop) (h : RB W g 0 0 .nilIface on)
    (hb : Calls Tryz.prog 58 #[.pointer (some ⟨g, 0, none⟩)] (W.setCell ⟨g, 1, none⟩ (.int .i32 1)) fun e w' => ∃ b, e = .returned (.iface 137 (.pointer (some ⟨b, 0, none⟩))) ∧ RB w' g 0 1 .nilIface on ∧ Q b w') :
    Calls Tryz.prog 43 #[.pointer (some ⟨g, 0, none⟩), .func (.func 44) #[.pointer (some ⟨g, 0, none⟩)] #[]] W fun e w' => e = .returned (.tuple #[]) ∧ ∃ b w1, Q b w1 ∧ RB w1 g 0 1 .nilIface on ∧ w' = done_ w1 g b := by
  have HS := Aside0.mk (slow_call g W on Q h (buildOnce_call g (W.setCell ⟨g, 1, none⟩ (.int .i32 1)) (.int .u32 0) (.int .i32 1) (.int .u32 0) .nilIface on (blk_put h 1 _ rfl) Q hb))
  have HLD := Aside0.mk (load_call ⟨g, 0, none⟩ 0 W ((blk_cell h 0).trans rfl) false rfl)
  clear hb h
  go_enter Tryz.func43, Tryz.ntmps43
  go_wp2_with (first
    | (go_at_call 56; (with_reducible refine HLD.out.mono ?_); rintro e w' ⟨rfl, rfl⟩)
    | (go_at_call 57; (with_reducible refine HS.out.mono ?_); rintro e w2 ⟨rfl, b, w1, hq, h1, rfl⟩; have HQ := Aside0.mk hq; have H1 := Aside0.mk h1; clear hq h1))
  go_end0
  exact ⟨rfl, b, w1, HQ.out, H1.out, rfl⟩
theorem method_run (b : Nat) (w : World) : (method 300 137 (.pointer (some ⟨b, 0, none⟩)) "Replace").run Tryz.prog w = .ok (129, .pointer (some ⟨b, 0, none⟩)) w := by
  kernel_rfl
set_option maxRecDepth 100000 in
set_option maxHeartbeats 1600000 in
theorem replace_call (g : Nat) (W : World) (on : Value) (Q : Nat → World → Prop) (s out : ByteArray) (P : World → Prop) (h : RB W g 0 0 .nilIface on)
    (hb : Calls Tryz.prog 58 #[.pointer (some ⟨g, 0, none⟩)] (W.setCell ⟨g, 1, none⟩ (.int .i32 1)) fun e w' => ∃ b, e = .returned (.iface 137 (.pointer (some ⟨b, 0, none⟩))) ∧ RB w' g 0 1 .nilIface on ∧ Q b w')
    (hr : ∀ b w1, Q b w1 → RB w1 g 0 1 .nilIface on → Calls Tryz.prog 129 #[.pointer (some ⟨b, 0, none⟩), .string s] (done_ w1 g b) fun e w' => e = .returned (.string out) ∧ P w') :
    Calls Tryz.prog 29 #[.pointer (some ⟨g, 0, none⟩), .string s] W fun e w' => e = .returned (.string out) ∧ P w' := by
  have HD := Aside0.mk (do_call g W on Q h hb)
  have HR := Aside0.mk hr
  clear hb h hr
  go_enter Tryz.func29, Tryz.ntmps29
  go_upto_region 2 with (first
    | (go_at_call 43; (with_reducible refine HD.out.mono ?_); rintro e w2 ⟨rfl, b, w1, hq, h1, rfl⟩; have HQ := Aside0.mk hq; have H1 := Aside0.mk h1; clear hq h1))
  have hR := done_RB (b := b) H1.out
  have x3 : (done_ w1 g b).cell? ⟨g, 3, none⟩ = some (.iface 137 (.pointer (some ⟨b, 0, none⟩))) := (blk_cell hR 3).trans rfl
  have HC := Aside0.mk (HR.out b w1 HQ.out H1.out)
  clear hR
  obtain ⟨w3, hw3⟩ : ∃ w3, done_ w1 g b = w3 := ⟨_, rfl⟩
  rw [hw3] at x3 HC ⊢
  have hmr := method_run b w3
  clear hw3 HR
  go_wp2_with (first
    | (go_at_call 129; (with_reducible refine HC.out.mono ?_); rintro e w4 ⟨rfl, hp⟩; have HP := Aside0.mk hp; clear hp))
  go_ret
  exact ⟨rfl, HP.out⟩
end Go.Proofs.YtlpoglkddknedaaGreatDoor.R

namespace Go.Proofs.YtlpoglkddknedaaGreatDoor.R
open Go.RowKit Go.Proofs.YtlpoglkddknedaaGreatDoor.T Go.Proofs.YtlpoglkddknedaaGreatDoor.H Go.Proofs.YtlpoglkddknedaaGreatDoorW.PrintWords Go.Proofs.YtlpoglkddknedaaGreatDoorW.PrintLast
set_option linter.unusedVariables false
set_option linter.unusedSimpArgs false
theorem info9 : (Tryz.prog.info? 9).map (fun i => (i.zero, i.size, i.bytes)) = some (some (.string ⟨#[]⟩), 1, 16) := by kernel_rfl
theorem make_strs (w : World) : ∃ W', (Instr.makeSlice 38 (.int .i64 0) (.int .i64 2)).run Tryz.prog w = .ok (.slice (some ⟨w.heap.size, 0, none⟩) 0 2) W' ∧ Kd.R Kd.string 9 W' w.heap.size (fun k => k < W'.heap.size) (.slice (some ⟨w.heap.size, 0, none⟩) 0 2) [] ∧ Below w.heap.size w W' ∧ W'.heap.size = w.heap.size + 1 := by
  obtain ⟨i0, hi, hz0, hz1, hz2⟩ := info_parts info9
  have hb : (i0.bytes : Int) * (2 : Int) ≤ 281474976710656 := by rw [hz2]; omega
  have hr := run_make (P := Tryz.prog) w 38 9 i0 (.string ⟨#[]⟩) Tryz.underlying38 hi hz0 .i64 .i64 0 2 (by omega) (by omega) hb (by omega)
  refine ⟨_, hr, ⟨fun k hk => ?_, [], ⟨rfl, .inr ⟨w.heap.size, 2, _, by simp, Nat.le_refl _, heap_alloc_new w _, Nat.zero_le _, by simp only [maxLen]; omega, ?_, rfl⟩⟩, Reps.none _ _⟩, (Below.refl _ w).alloc (Nat.le_refl _) _, by simp⟩
  · obtain rfl : w.heap.size = k := by simpa [Value.ownBlock] using hk
    simp
  · show (madeCells (Value.string ⟨#[]⟩).cells (Int.toNat 2 * i0.size)).size = _
    rw [hz1]
    simp [madeCells, Value.cells, Kd.string, Kd.scalar]
set_option maxRecDepth 100000 in
theorem zero136 : Tryz.zeroCells136 = Array.replicate 257 (.slice none 0 0) := by kernel_rfl
theorem zero136_len : Tryz.zeroCells136.toList.length = 257 := by rw [zero136, Array.toList_replicate, List.length_replicate]
theorem zero136_at (j : Nat) (h : j < 257) : Tryz.zeroCells136.toList[j]? = some (.slice none 0 0) := by
  rw [zero136, Array.toList_replicate, List.getElem?_replicate, if_pos h]
/-- The replacer's block: what it replaces, and the row of it. -/
abbrev BB (w : World) (b : Nat) (L : List Value) : Prop := w.heap[b]? = some (.cells L.toArray 136 (0, 0))
theorem BB.put {w : World} {b : Nat} {L : List Value} (h : BB w b L) (j : Nat) (v : Value) : BB (w.setCell ⟨b, j, none⟩ v) b (L.set j v) := blk_put h j v (by simp)
theorem BB.cell {w : World} {b : Nat} {L : List Value} (h : BB w b L) (j : Nat) : w.cell? ⟨b, j, none⟩ = L[j]? := (blk_cell h j).trans (by simp)
theorem fill136 (w : World) (v : Value) (hv : v.oneCell' = true) (b : Nat) (hb : w.heap.size = b) : ∃ w', (storeCells ⟨b, 0, none⟩ (Tryz.zeroCells136.toList.set 256 v)).run Tryz.prog (w.alloc (.cells Tryz.zeroCells136 136)) = .ok () w' ∧ BB w' b (Tryz.zeroCells136.toList.set 256 v) ∧ Below w.heap.size w w' ∧ w'.heap.size = b + 1 := by
  subst hb
  have hn := blk_new w (.cells Tryz.zeroCells136 136)
  have hl : (Tryz.zeroCells136.toList.set 256 v).length = 257 := by rw [List.length_set, zero136_len]
  have h1 : ∀ u ∈ Tryz.zeroCells136.toList.set 256 v, u.oneCell' = true := by
    intro u hu
    rcases List.mem_or_eq_of_mem_set hu with hu | rfl
    · rw [zero136, Array.toList_replicate] at hu
      rw [List.eq_of_mem_replicate hu]
      rfl
    · exact hv
  have hz : Tryz.zeroCells136.size = 257 := by rw [← Array.length_toList, zero136_len]
  have hr := run_storeCells_at (P := Tryz.prog) w.heap.size 0 136 (Tryz.zeroCells136.toList.set 256 v) 0 Tryz.zeroCells136 (w.alloc (.cells Tryz.zeroCells136 136)) hn (by rw [hl, hz]; omega) h1
  have e : (Tryz.zeroCells136.toList.take (0 + 0) ++ Tryz.zeroCells136.toList.set 256 v ++ Tryz.zeroCells136.toList.drop (0 + 0 + (Tryz.zeroCells136.toList.set 256 v).length)) = Tryz.zeroCells136.toList.set 256 v := by
    rw [hl, List.drop_eq_nil_of_le (by rw [zero136_len]; omega)]
    simp
  rw [e] at hr
  exact ⟨_, hr, setRow_heap _ _ _ _ _ _ hn, below_setRow ((Below.refl _ _).alloc (Nat.le_refl _) _) (Nat.le_refl _) _, by rw [size_setRow, World.size_alloc]⟩
theorem eql_nil (w : World) : (binOp BinOp.eql 42 (.slice none 0 0) (.slice none 0 0)).run Tryz.prog w = .ok (.bool true) w := by kernel_rfl
theorem neq_nil (w : World) : (binOp BinOp.neq 42 (.slice none 0 0) (.slice none 0 0)).run Tryz.prog w = .ok (.bool false) w := by kernel_rfl
theorem neq_some (a : Addr) (n c : Nat) (w : World) : (binOp BinOp.neq 42 (.slice (some a) n c) (.slice none 0 0)).run Tryz.prog w = .ok (.bool true) w := by kernel_rfl
theorem keepC {w w1 : World} {p : Addr} {v : Value} (h : w.cell? p = some v) (hb : Below w.heap.size w w1) : w1.cell? p = some v := (hb.cell (World.block_lt_of_cell? w _ h)).trans h
theorem conv1 (w : World) (n : UInt8) : (convert 42 9 (.slice (some ⟨w.heap.size, 0, none⟩) 1 1)).run Tryz.prog (w.alloc (.cells #[.int .u8 n.toNat] 5)) = .ok (.string ⟨#[n]⟩) (w.alloc (.cells #[.int .u8 n.toNat] 5)) := by
  refine run_convert_bytes_back _ 42 9 5 ⟨w.heap.size, 0, none⟩ 1 [n] Tryz.underlying42 Tryz.underlying5 Tryz.underlying9 (fun j hj => ?_)
  obtain rfl : j = 0 := by simpa using hj
  rw [Addr.add_lit, World.cell?_alloc_new]
  rfl
theorem RowB.below {w w1 : World} {g : Nat} {s : ByteArray} (h : RowB w g s) (hb : Below w.heap.size w w1) : RowB w1 g s := ⟨Nat.lt_of_lt_of_le h.1 hb.size, fun j hj => keepC (h.2 j hj) hb⟩
theorem RowB.grown {w w1 : World} {g : Nat} {s : ByteArray} (h : RowB w g s) {row : Option Nat} (hg : w.grownBy w1 row) (hne : some g ≠ row) : RowB w1 g s := by
  obtain ⟨o, ho⟩ : ∃ o, w.heap[g]? = some o := ⟨_, Array.getElem?_eq_getElem h.1⟩
  have h1 := blk_grown ho hg hne
  refine ⟨blk_lt h1, fun j hj => ?_⟩
  rw [← h.2 j hj]
  exact World.cell?_of_block (by rw [h1, ho])
theorem RowB.far {w : World} {g : Nat} {s : ByteArray} (h : RowB w g s) {p : Addr} (hne : g ≠ p.block) (v : Value) : RowB (w.setCell p v) g s :=
  ⟨by rw [World.size_setCell]; exact h.1, fun j hj => (World.cell?_setCell_other w p ⟨g, j, none⟩ v (fun e => hne (by first | exact congrArg Addr.block e | exact (congrArg Addr.block e).symm))).trans (h.2 j hj)⟩
/-- The cells of a replacer: m tells the first 256, vt the last. -/
def Cel (L : List Value) (m : Nat → Value) (vt : Value) : Prop := L.length = 257 ∧ L[256]? = some vt ∧ ∀ j, j < 256 → L[j]? = some (m j)
theorem Cel.put {L : List Value} {m : Nat → Value} {vt : Value} (h : Cel L m vt) (j : Nat) (hj : j < 256) (v : Value) : Cel (L.set j v) (fun k => if k = j then v else m k) vt := by
  refine ⟨by rw [List.length_set, h.1], by rw [List.getElem?_set_ne (by omega)]; exact h.2.1, fun k hk => ?_⟩
  by_cases e : k = j
  · subst e
    rw [List.getElem?_set_self (by rw [h.1]; omega)]
    show some v = some (if k = k then v else m k)
    rw [if_pos rfl]
  · rw [List.getElem?_set_ne (fun x => e x.symm)]
    show L[k]? = some (if k = j then v else m k)
    rw [if_neg e]; exact h.2.2 k hk
theorem Cel.last {L : List Value} {m : Nat → Value} {vt : Value} (h : Cel L m vt) (v : Value) : Cel (L.set 256 v) m v := by
  refine ⟨by rw [List.length_set, h.1], List.getElem?_set_self (by rw [h.1]; decide), fun k hk => ?_⟩
  rw [List.getElem?_set_ne (by omega)]; exact h.2.2 k hk
/-- The replacer while it is built: its cells, the row of what it replaces, the bytes that it puts in place. -/
structure BR (W : World) (b : Nat) (m : Nat → Value) (vt : Value) (toks : List ByteArray) (Z : List (Nat × ByteArray)) (w : World) : Prop where
  bb : ∃ L, BB w b L ∧ Cel L m vt
  row : Kd.R Kd.string 9 w W.heap.size (fun k => k ≠ b ∧ ∀ z ∈ Z, k ≠ z.1) vt toks
  bl : Below W.heap.size W w
  lb : W.heap.size ≤ b
  rows : ∀ z ∈ Z, RowB w z.1 z.2 ∧ z.1 ≠ b
  zb : ∀ z ∈ Z, W.heap.size ≤ z.1
section
variable {W w w1 : World} {b : Nat} {m : Nat → Value} {vt : Value} {toks : List ByteArray} {Z : List (Nat × ByteArray)}
theorem BR.size (h : BR W b m vt toks Z w) : W.heap.size ≤ w.heap.size := h.bl.size
theorem BR.lt (h : BR W b m vt toks Z w) : b < w.heap.size := by obtain ⟨L, h1, _⟩ := h.bb; exact blk_lt h1
theorem BR.cell (h : BR W b m vt toks Z w) (j : Nat) (hj : j < 256) : w.cell? ⟨b, j, none⟩ = some (m j) := by obtain ⟨L, h1, h2⟩ := h.bb; exact (BB.cell h1 j).trans (h2.2.2 j hj)
theorem BR.cell256 (h : BR W b m vt toks Z w) : w.cell? ⟨b, 256, none⟩ = some vt := by obtain ⟨L, h1, h2⟩ := h.bb; exact (BB.cell h1 256).trans h2.2.1
theorem BR.frozen (h : BR W b m vt toks Z w) (j : Nat) : w.frozen? ⟨b, j, none⟩ = false := by obtain ⟨L, h1, h2⟩ := h.bb; exact blk_frozen h1 j
theorem BR.below (h : BR W b m vt toks Z w) (hb : Below w.heap.size w w1) : BR W b m vt toks Z w1 where
  bb := by obtain ⟨L, h1, h2⟩ := h.bb; exact ⟨L, blk_below h1 hb, h2⟩
  row := Kd.R_below h.row hb
  bl := h.bl.trans (hb.mono h.size)
  lb := h.lb
  rows := fun z hz => ⟨RowB.below (h.rows z hz).1 hb, (h.rows z hz).2⟩
  zb := h.zb
theorem BR.fresh (h : BR W b m vt toks Z w) (k : Nat) (hk : w.heap.size ≤ k) : k ≠ b ∧ ∀ z ∈ Z, k ≠ z.1 := by
  have h1 := h.lt
  exact ⟨by omega, fun z hz => by have := (h.rows z hz).1.1; omega⟩
theorem BR.n (h : BR W b m vt toks Z w) : some b ≠ vt.ownBlock := Kd.R_away h.row (fun _ hk => hk.1)
theorem BR.app (h : BR W b m vt toks Z w) {v1 : Value} {xs : List ByteArray} (ho : Kd.R Kd.string 9 w1 W.heap.size (fun k => k ≠ b ∧ ∀ z ∈ Z, k ≠ z.1) v1 (toks ++ xs)) (hb : Below W.heap.size W w1) (hg : w.grownBy w1 vt.ownBlock) :
    BR W b m v1 (toks ++ xs) Z (w1.setCell ⟨b, 256, none⟩ v1) where
  bb := by obtain ⟨L, h1, h2⟩ := h.bb; exact ⟨_, BB.put (blk_grown h1 hg h.n) 256 v1, h2.last v1⟩
  row := Kd.R_far (p := ⟨b, 256, none⟩) ho (fun _ hk => hk.1) _
  bl := hb.setCell (p := ⟨b, 256, none⟩) h.lb _
  lb := h.lb
  rows := fun z hz => ⟨RowB.far (RowB.grown (h.rows z hz).1 hg (Kd.R_away h.row (fun _ hk => hk.2 z hz))) (h.rows z hz).2 _, (h.rows z hz).2⟩
  zb := h.zb
/-- The cells right behind the append. -/
theorem BR.grown (h : BR W b m vt toks Z w) (hg : w.grownBy w1 vt.ownBlock) : w1.cell? ⟨b, 256, none⟩ = some vt ∧ w1.frozen? ⟨b, 256, none⟩ = false := by
  obtain ⟨L, h1, h2⟩ := h.bb
  have h3 := blk_grown h1 hg h.n
  exact ⟨(BB.cell h3 256).trans h2.2.1, blk_frozen h3 256⟩
theorem BR.put (h : BR W b m vt toks Z w) (j : Nat) (hj : j < 256) (v : Value) : BR W b (fun k => if k = j then v else m k) vt toks Z (w.setCell ⟨b, j, none⟩ v) where
  bb := by obtain ⟨L, h1, h2⟩ := h.bb; exact ⟨_, BB.put h1 j v, h2.put j hj v⟩
  row := Kd.R_far (p := ⟨b, j, none⟩) h.row (fun _ hk => hk.1) _
  bl := h.bl.setCell (p := ⟨b, j, none⟩) h.lb _
  lb := h.lb
  rows := fun z hz => ⟨RowB.far (h.rows z hz).1 (h.rows z hz).2 _, (h.rows z hz).2⟩
  zb := h.zb
/-- One more row of bytes, made since. -/
theorem BR.more (h : BR W b m vt toks Z w) (hb : Below w.heap.size w w1) {s : ByteArray} (hr : RowB w1 w.heap.size s) : BR W b m vt toks ((w.heap.size, s) :: Z) w1 where
  bb := by obtain ⟨L, h1, h2⟩ := h.bb; exact ⟨L, blk_below h1 hb, h2⟩
  row := Kd.R_below (Kd.R_mono (Kd.R_bound h.row) (fun k hk => ⟨hk.1.1, fun z hz => by
    rcases List.mem_cons.1 hz with rfl | hz
    · have := hk.2.2.1; show k ≠ w.heap.size; omega
    · exact hk.1.2 z hz⟩)) hb
  bl := h.bl.trans (hb.mono h.size)
  lb := h.lb
  rows := fun z hz => by
    rcases List.mem_cons.1 hz with rfl | hz
    · exact ⟨hr, by have := h.lt; show w.heap.size ≠ b; omega⟩
    · exact ⟨RowB.below (h.rows z hz).1 hb, (h.rows z hz).2⟩
  zb := fun z hz => by
    rcases List.mem_cons.1 hz with rfl | hz
    · exact h.size
    · exact h.zb z hz
end
/-- A replacer as the law's quoting builds it. -/
def RepB (W : World) (b : Nat) (w : World) : Prop := ∃ vt p1 p2 d1 d2, BR W b (fun k => if k = 92 then .slice (some ⟨p2, 0, none⟩) 2 d2 else if k = 34 then .slice (some ⟨p1, 0, none⟩) 2 d1 else .slice none 0 0) vt [⟨#[34]⟩, ⟨#[92]⟩] [(p2, ⟨#[92, 92]⟩), (p1, ⟨#[92, 34]⟩)] w
set_option maxRecDepth 100000 in
set_option maxHeartbeats 4000000 in
theorem build_call (g q c : Nat) (W : World) (h : RB W g 0 1 .nilIface (.slice (some ⟨q, 0, none⟩) 4 c)) (hc : 4 ≤ c)
    (h0 : W.cell? ⟨q, 0, none⟩ = some (.string ⟨#[92]⟩)) (h1 : W.cell? ⟨q, 1, none⟩ = some (.string ⟨#[92, 92]⟩)) (h2 : W.cell? ⟨q, 2, none⟩ = some (.string ⟨#[34]⟩)) (h3 : W.cell? ⟨q, 3, none⟩ = some (.string ⟨#[92, 34]⟩)) :
    Calls Tryz.prog 58 #[.pointer (some ⟨g, 0, none⟩)] W fun e w' => ∃ b, e = .returned (.iface 137 (.pointer (some ⟨b, 0, none⟩))) ∧ RB w' g 0 1 .nilIface (.slice (some ⟨q, 0, none⟩) 4 c) ∧ RepB W b w' ∧ Below W.heap.size W w' := by
  have x4 : W.cell? ⟨g, 4, none⟩ = some (.slice (some ⟨q, 0, none⟩) 4 c) := (blk_cell h 4).trans rfl
  have HG := Aside0.mk h
  clear h
  go_enter Tryz.func58, Tryz.ntmps58
  obtain ⟨W1, hmk, hrow, hb1, hs1⟩ := make_strs W
  have HROW := Aside0.mk hrow
  have HB1 := Aside0.mk hb1
  obtain ⟨w2, hst, hbb, hb2, hs2⟩ := fill136 W1 (.slice (some ⟨W.heap.size, 0, none⟩) 0 2) rfl (W.heap.size + 1) hs1
  have HBB := Aside0.mk hbb
  have HB2 := Aside0.mk hb2
  clear hrow hb1 hbb hb2
  go_upto_region 6 with (fail)
  refine wp_loop_rounds 3 ?_
  refine rounds_succ.mpr ?_
  go_wp2
  refine rounds_succ.mpr ?_
  go_wp2
  refine rounds_succ.mpr ?_
  go_upto_region 28 with (fail)
  obtain ⟨b, hb⟩ : ∃ b, W.heap.size + 1 = b := ⟨_, rfl⟩
  obtain ⟨r, hr⟩ : ∃ r, W.heap.size = r := ⟨_, rfl⟩
  rw [hb] at HBB
  have HB12 := Aside0.mk (HB1.out.trans (HB2.out.mono HB1.out.size))
  have HBR := Aside0.mk (And.intro hb hr)
  have HROW2 := Aside0.mk (Kd.R_below HROW.out HB2.out)
  have q0 := keepC h0 HB12.out
  have q1 := keepC h1 HB12.out
  have q2 := keepC h2 HB12.out
  have q3 := keepC h3 HB12.out
  have n34 : w2.cell? ⟨b, 34, none⟩ = some (.slice none 0 0) := by
    rw [HBB.out.cell, List.getElem?_set_ne (by decide)]; exact zero136_at 34 (by decide)
  have v256 : w2.cell? ⟨b, 256, none⟩ = some (.slice (some ⟨r, 0, none⟩) 0 2) := by
    rw [HBB.out.cell, List.getElem?_set_self (by rw [zero136_len]; decide), hr]
  rw [hb]
  have Q := Aside0.mk (And.intro h0 (And.intro h1 (And.intro h2 h3)))
  clear h0 h1 h2 h3 x4 hmk hst hb hr
  have hnil := eql_nil w2
  have e34 : ((⟨#[34]⟩ : ByteArray)[0]'(by decide)).toNat = 34 := rfl
  have e92 : ((⟨#[92]⟩ : ByteArray)[0]'(by decide)).toNat = 92 := rfl
  have HR2 := Aside0.mk (show BR W b (fun _ => .slice none 0 0) (.slice (some ⟨r, 0, none⟩) 0 2) [] [] w2 from
    { bb := ⟨_, by have h := HBB.out; rw [HBR.out.2] at h; exact h, by rw [List.length_set, zero136_len], List.getElem?_set_self (by rw [zero136_len]; decide), fun j hj => by rw [List.getElem?_set_ne (by omega)]; exact zero136_at j (by omega)⟩
      row := by
        have h := HROW2.out
        rw [HBR.out.2, hs1, HBR.out.1] at h
        rw [HBR.out.2]
        exact Kd.R_mono h (fun k hk => ⟨by omega, fun z hz => absurd hz List.not_mem_nil⟩)
      bl := HB12.out
      lb := by have := HBR.out.1; omega
      rows := fun z hz => absurd hz List.not_mem_nil
      zb := fun z hz => absurd hz List.not_mem_nil })
  clear HBB HROW2 HROW HB1 HB2 hs1 hs2 q0 q1 q2 q3 n34 v256 hnil
  refine wp_loop_rounds 3 ?_
  have hcv : (convert 42 9 (.slice (some ⟨w2.heap.size, 0, none⟩) 1 1)).run Tryz.prog (w2.alloc (.cells #[.int .u8 34] 5)) = .ok (.string ⟨#[34]⟩) (w2.alloc (.cells #[.int .u8 34] 5)) := conv1 w2 34
  have hnil := eql_nil w2
  have HAL := Aside0.mk (HR2.out.below (show Below w2.heap.size w2 (w2.alloc (.cells #[.int .u8 34] 5)) from (Below.refl _ _).alloc (Nat.le_refl _) _))
  have n0 : w2.cell? ⟨b, 34, none⟩ = some (.slice none 0 0) := HR2.out.cell 34 (by decide)
  have v256 : (w2.alloc (.cells #[.int .u8 34] 5)).cell? ⟨b, 256, none⟩ = some (.slice (some ⟨r, 0, none⟩) 0 2) := HAL.out.cell256
  have u256 : w2.cell? ⟨b, 256, none⟩ = some (.slice (some ⟨r, 0, none⟩) 0 2) := HR2.out.cell256
  have qa := keepC Q.out.2.2.1 HR2.out.bl
  have qb := keepC Q.out.2.2.2 HR2.out.bl
  refine rounds_succ.mpr ?_
  go_upto_region 34 with (first
    | (at_builtin
       refine Kd.R_append Kd.string (w0 := W) W.heap.size rfl (.tmp 119) (.tmp 123) 38 9 (.string ⟨#[]⟩) 16 rfl Tryz.underlying38 info9 rfl (by decide) (by omega) (.slice (some ⟨r, 0, none⟩) 0 2) [] ⟨#[34]⟩ [.string ⟨#[34]⟩] (fun k => k ≠ b ∧ ∀ z ∈ ([] : List (Nat × ByteArray)), k ≠ z.1) (fun _ => False) rfl (by first | (go_simp; done) | (go_simp; rfl)) ?cP (fun _ hk => hk.elim) ?cF ?cO ?cB ?cS ?cL ?_
       case cP => exact rfl
       case cF => exact HAL.out.fresh
       case cO => exact HAL.out.row
       case cB => exact HAL.out.bl
       case cS => exact HAL.out.size
       case cL => decide
       intro v3 w3 ho hb3 hg3 hat3
       obtain ⟨A1, c1, e3⟩ := Kd.R_slice ho
       subst e3
       have HAP1 := Aside0.mk (HAL.out.app ho hb3 hg3)
       obtain ⟨d256, g256⟩ := HAL.out.grown hg3
       clear ho hb3 hg3 hat3 qa qb n0 v256 u256 hcv hnil))
  clear d256 g256 HAL HR2
  simp only [List.length_append, List.length_cons, List.length_nil, Nat.reduceAdd, Nat.zero_add, List.nil_append, List.cons_append] at HAP1 ⊢
  obtain ⟨w41, hw4⟩ : ∃ w4, w3.setCell ⟨b, 256, none⟩ (.slice A1 1 c1) = w4 := ⟨_, rfl⟩
  rw [hw4] at HAP1 ⊢
  clear hw4
  obtain ⟨w51, d1, hcv, hrow5, hb5, hs5⟩ := conv_bytes w41 ⟨#[92, 34]⟩
  rw [show (⟨#[92, 34]⟩ : ByteArray).size = 2 from rfl] at hcv
  have HM1 := Aside0.mk (HAP1.out.more hb5 hrow5)
  have d34 : w51.cell? ⟨b, 34, none⟩ = some (.slice none 0 0) := HM1.out.cell 34 (by decide)
  have g34 := HM1.out.frozen 34
  clear hrow5 hb5 hs5 HAP1
  go_wp2
  have HP1 := Aside0.mk (HM1.out.put 34 (by decide) (.slice (some ⟨w41.heap.size, 0, none⟩) 2 d1))
  obtain ⟨w6, hw6⟩ : ∃ w6, w51.setCell ⟨b, 34, none⟩ (.slice (some ⟨w41.heap.size, 0, none⟩) 2 d1) = w6 := ⟨_, rfl⟩
  obtain ⟨p1, hp1⟩ : ∃ p1, w41.heap.size = p1 := ⟨_, rfl⟩
  rw [hp1] at HP1 hw6 ⊢
  rw [hw6] at HP1 ⊢
  have HR6 := HP1
  clear hw6 hp1 HP1 HM1 d34 g34 hcv
  have hcv : (convert 42 9 (.slice (some ⟨w6.heap.size, 0, none⟩) 1 1)).run Tryz.prog (w6.alloc (.cells #[.int .u8 92] 5)) = .ok (.string ⟨#[92]⟩) (w6.alloc (.cells #[.int .u8 92] 5)) := conv1 w6 92
  have hnil := eql_nil w6
  have HAL := Aside0.mk (HR6.out.below (show Below w6.heap.size w6 (w6.alloc (.cells #[.int .u8 92] 5)) from (Below.refl _ _).alloc (Nat.le_refl _) _))
  have n0 : w6.cell? ⟨b, 92, none⟩ = some (.slice none 0 0) := HR6.out.cell 92 (by decide)
  have v256 : (w6.alloc (.cells #[.int .u8 92] 5)).cell? ⟨b, 256, none⟩ = some (.slice A1 1 c1) := HAL.out.cell256
  have u256 : w6.cell? ⟨b, 256, none⟩ = some (.slice A1 1 c1) := HR6.out.cell256
  have qa := keepC Q.out.1 HR6.out.bl
  have qb := keepC Q.out.2.1 HR6.out.bl
  refine rounds_succ.mpr ?_
  go_upto_region 34 with (first
    | (at_builtin
       refine Kd.R_append Kd.string (w0 := W) W.heap.size rfl (.tmp 119) (.tmp 123) 38 9 (.string ⟨#[]⟩) 16 rfl Tryz.underlying38 info9 rfl (by decide) (by omega) (.slice A1 1 c1) [⟨#[34]⟩] ⟨#[92]⟩ [.string ⟨#[92]⟩] (fun k => k ≠ b ∧ ∀ z ∈ ([(p1, ⟨#[92, 34]⟩)] : List (Nat × ByteArray)), k ≠ z.1) (fun _ => False) rfl (by first | (go_simp; done) | (go_simp; rfl)) ?cP (fun _ hk => hk.elim) ?cF ?cO ?cB ?cS ?cL ?_
       case cP => exact rfl
       case cF => exact HAL.out.fresh
       case cO => exact HAL.out.row
       case cB => exact HAL.out.bl
       case cS => exact HAL.out.size
       case cL => decide
       intro v3 w3 ho hb3 hg3 hat3
       obtain ⟨A2, c2, e3⟩ := Kd.R_slice ho
       subst e3
       have HAP2 := Aside0.mk (HAL.out.app ho hb3 hg3)
       obtain ⟨d256, g256⟩ := HAL.out.grown hg3
       clear ho hb3 hg3 hat3 qa qb n0 v256 u256 hcv hnil))
  clear d256 g256 HAL HR6
  simp only [List.length_append, List.length_cons, List.length_nil, Nat.reduceAdd, Nat.zero_add, List.nil_append, List.cons_append] at HAP2 ⊢
  obtain ⟨w42, hw4⟩ : ∃ w4, w3.setCell ⟨b, 256, none⟩ (.slice A2 2 c2) = w4 := ⟨_, rfl⟩
  rw [hw4] at HAP2 ⊢
  clear hw4
  obtain ⟨w52, d2, hcv, hrow5, hb5, hs5⟩ := conv_bytes w42 ⟨#[92, 92]⟩
  rw [show (⟨#[92, 92]⟩ : ByteArray).size = 2 from rfl] at hcv
  have HM2 := Aside0.mk (HAP2.out.more hb5 hrow5)
  have d34 : w52.cell? ⟨b, 92, none⟩ = some (.slice none 0 0) := HM2.out.cell 92 (by decide)
  have g34 := HM2.out.frozen 92
  clear hrow5 hb5 hs5 HAP2
  go_wp2
  have HP2 := Aside0.mk (HM2.out.put 92 (by decide) (.slice (some ⟨w42.heap.size, 0, none⟩) 2 d2))
  clear HM2 d34 g34 hcv
  refine rounds_succ.mpr ?_
  go_wp2
  go_ret
  exact ⟨b, rfl, blk_below HG.out HP2.out.bl, ⟨_, p1, w42.heap.size, d1, d2, HP2.out⟩, HP2.out.bl⟩
end Go.Proofs.YtlpoglkddknedaaGreatDoor.R

namespace Go.Proofs.YtlpoglkddknedaaGreatDoor.R
open Go.RowKit Go.Lib Go.Proofs.YtlpoglkddknedaaGreatDoor.T Go.Proofs.YtlpoglkddknedaaGreatDoor.H Go.Proofs.YtlpoglkddknedaaGreatDoorW.PrintWords Go.Proofs.YtlpoglkddknedaaGreatDoorW.PrintLast
set_option linter.unusedVariables false
set_option linter.unusedSimpArgs false
def esc (c : UInt8) : List UInt8 := if c = 92 then [92, 92] else if c = 34 then [92, 34] else [c]
def replL (l : List UInt8) : List UInt8 := l.flatMap esc
def ex (l : List UInt8) : Nat := l.count 34 + l.count 92
theorem replL_app (a b : List UInt8) : replL (a ++ b) = replL a ++ replL b := by simp [replL]
theorem replL_one (c : UInt8) : replL [c] = esc c := by simp [replL]
theorem ex_app (a b : List UInt8) : ex (a ++ b) = ex a + ex b := by simp only [ex, List.count_append]; omega
theorem ex_one (c : UInt8) : ex [c] = if c = 92 ∨ c = 34 then 1 else 0 := by
  unfold ex
  by_cases h1 : c = 92
  · subst h1; decide
  · by_cases h2 : c = 34
    · subst h2; decide
    · rw [if_neg (by simp [h1, h2])]
      simp [List.count_cons, h1, h2]
theorem esc_len (c : UInt8) : (esc c).length = 1 + ex [c] := by
  rw [ex_one]
  unfold esc
  by_cases h1 : c = 92
  · subst h1; decide
  · by_cases h2 : c = 34
    · subst h2; decide
    · rw [if_neg h1, if_neg h2, if_neg (by simp [h1, h2])]; rfl
theorem replL_len : ∀ l : List UInt8, (replL l).length = l.length + ex l
  | [] => rfl
  | c :: l => by
    have ih := replL_len l
    have h : c :: l = [c] ++ l := rfl
    rw [h, replL_app, List.length_append, replL_one, esc_len, ih, ex_app, List.length_append]
    simp only [List.length_cons, List.length_nil]
    omega
theorem replL_none : ∀ l : List UInt8, ex l = 0 → replL l = l
  | [], _ => rfl
  | c :: l, h => by
    have h1 : c :: l = [c] ++ l := rfl
    rw [h1, ex_app] at h
    have ih := replL_none l (by omega)
    have h2 : ex [c] = 0 := by omega
    rw [ex_one] at h2
    have h3 : ¬ (c = 92 ∨ c = 34) := fun e => by rw [if_pos e] at h2; omega
    rw [h1, replL_app, ih, replL_one]
    unfold esc
    rw [if_neg (fun e => h3 (.inl e)), if_neg (fun e => h3 (.inr e))]
theorem ex_le (l : List UInt8) : ex l ≤ l.length := by
  induction l with
  | nil => simp [ex]
  | cons c l ih =>
    have h1 : c :: l = [c] ++ l := rfl
    rw [h1, ex_app, List.length_append, ex_one]
    simp only [List.length_cons, List.length_nil]
    split <;> omega
theorem take_one (l : List UInt8) (i : Nat) (h : i < l.length) : l.take (i + 1) = l.take i ++ [l[i]] := List.take_succ_eq_append_getElem h
theorem ex_take (l : List UInt8) (i : Nat) (h : i < l.length) : ex (l.take (i + 1)) = ex (l.take i) + ex [l[i]] := by rw [take_one l i h, ex_app]
theorem ex_take_le (l : List UInt8) (i : Nat) : ex (l.take i) ≤ ex l := by
  conv => rhs; rw [← List.take_append_drop i l]
  rw [ex_app]
  omega
/-- The buffer: what is written, and zeros behind it. -/
def fillB (l : List UInt8) (n : Nat) : List Value := byteCells l ++ List.replicate (n - l.length) (.int .u8 0)
theorem fillB_len (l : List UInt8) (n : Nat) (h : l.length ≤ n) : (fillB l n).length = n := by
  unfold fillB
  rw [List.length_append, byteCells_length, List.length_replicate]
  omega
theorem byteCells_app (a b : List UInt8) : byteCells (a ++ b) = byteCells a ++ byteCells b := by simp [byteCells]
theorem fillB_splice (l xs : List UInt8) (n : Nat) (h : l.length + xs.length ≤ n) : (fillB l n).take l.length ++ byteCells xs ++ (fillB l n).drop (l.length + xs.length) = fillB (l ++ xs) n := by
  unfold fillB
  have h1 : (byteCells l).length = l.length := byteCells_length l
  have e : n - l.length - xs.length = n - (l ++ xs).length := by rw [List.length_append]; omega
  rw [List.take_left' h1, byteCells_app, ← List.drop_drop, List.drop_left' h1, List.drop_replicate, e]
theorem fillB_set (l : List UInt8) (c : UInt8) (n : Nat) (h : l.length + 1 ≤ n) : (fillB l n).set l.length (.int .u8 c.toNat) = fillB (l ++ [c]) n := by
  unfold fillB
  have h1 : (byteCells l).length = l.length := byteCells_length l
  obtain ⟨k, hk⟩ : ∃ k, n - l.length = k + 1 := ⟨n - l.length - 1, by omega⟩
  rw [List.set_append_right _ _ (by omega), h1, Nat.sub_self, hk, List.replicate_succ, List.set_cons_zero, byteCells_app, List.append_assoc, List.length_append, show n - (l.length + [c].length) = k by simp only [List.length_cons, List.length_nil]; omega]
  rfl
theorem fillB_full (l : List UInt8) (n : Nat) (h : l.length = n) : fillB l n = byteCells l := by
  unfold fillB
  rw [h, Nat.sub_self]
  simp
end Go.Proofs.YtlpoglkddknedaaGreatDoor.R

namespace Go.Proofs.YtlpoglkddknedaaGreatDoor.R
open Go.RowKit Go.Lib Go.Proofs.YtlpoglkddknedaaGreatDoor.T Go.Proofs.YtlpoglkddknedaaGreatDoor.H Go.Proofs.YtlpoglkddknedaaGreatDoorW.PrintWords Go.Proofs.YtlpoglkddknedaaGreatDoorW.PrintLast
set_option linter.unusedVariables false
set_option linter.unusedSimpArgs false
theorem ba_eta (s : ByteArray) : (⟨s.data.toList.toArray⟩ : ByteArray) = s := by cases s; simp
theorem BR.rep {W0 w : World} {b p1 p2 d1 d2 : Nat} {vt : Value} (h : BR W0 b (fun k => if k = 92 then .slice (some ⟨p2, 0, none⟩) 2 d2 else if k = 34 then .slice (some ⟨p1, 0, none⟩) 2 d1 else .slice none 0 0) vt [⟨#[34]⟩, ⟨#[92]⟩] [(p2, ⟨#[92, 92]⟩), (p1, ⟨#[92, 34]⟩)] w) (c : UInt8) :
    (∃ pz dz, w.cell? ⟨b, c.toNat, none⟩ = some (.slice (some ⟨pz, 0, none⟩) 2 dz) ∧ esc c = [92, c] ∧ ∀ j v, (byteCells [92, c])[j]? = some v → w.cell? (Addr.add ⟨pz, 0, none⟩ j) = some v) ∨ (w.cell? ⟨b, c.toNat, none⟩ = some (.slice none 0 0) ∧ esc c = [c]) := by
  have hm := h.cell c.toNat c.toNat_lt
  have two : ∀ (g : Nat) (x : UInt8), RowB w g ⟨#[92, x]⟩ → ∀ j v, (byteCells [92, x])[j]? = some v → w.cell? (Addr.add ⟨g, 0, none⟩ j) = some v := by
    intro g x hr j v hv
    rw [Addr.add_lit, Nat.zero_add]
    match j, hv with
    | 0, hv => rw [← hv]; exact hr.2 0 (by show 0 < 2; decide)
    | 1, hv => rw [← hv]; exact hr.2 1 (by show 1 < 2; decide)
  by_cases h1 : c = 92
  · subst h1
    exact .inl ⟨p2, d2, hm, rfl, two p2 92 (h.rows (p2, ⟨#[92, 92]⟩) (by simp)).1⟩
  · by_cases h2 : c = 34
    · subst h2
      exact .inl ⟨p1, d1, hm, rfl, two p1 34 (h.rows (p1, ⟨#[92, 34]⟩) (by simp)).1⟩
    · refine .inr ⟨?_, by unfold esc; rw [if_neg h1, if_neg h2]⟩
      have n1 : c.toNat ≠ 92 := fun e => h1 (UInt8.toNat_inj.1 (e.trans (show (92 : Nat) = (92 : UInt8).toNat from rfl)))
      have n2 : c.toNat ≠ 34 := fun e => h2 (UInt8.toNat_inj.1 (e.trans (show (34 : Nat) = (34 : UInt8).toNat from rfl)))
      rw [hm]
      show some (if c.toNat = 92 then _ else if c.toNat = 34 then _ else _) = _
      rw [if_neg n1, if_neg n2]
theorem size5 : (Tryz.prog.info? 5).map (·.size) = some 1 := by kernel_rfl
theorem byteCells_one (l : List UInt8) : ∀ v ∈ byteCells l, v.oneCell' = true := by
  intro v hv
  obtain ⟨x, _, rfl⟩ := List.mem_map.1 hv
  rfl
theorem zed (N k : Nat) (h : N ≤ 1000000) (hk : k ≤ 1000000) : wrap64 ((N : Int) + wrap64 ((k : Int) * wrap64 1)) = ((N + k : Nat) : Int) := by
  rw [IntWalk.wrap64_in 1 (by omega), Int.mul_one, IntWalk.wrap64_in (k : Int) (by omega), IntWalk.wrap64_in _ (by omega)]
  rfl
theorem rep34 {W0 w : World} {b p1 p2 d1 d2 : Nat} {vt : Value} (h : BR W0 b (fun k => if k = 92 then .slice (some ⟨p2, 0, none⟩) 2 d2 else if k = 34 then .slice (some ⟨p1, 0, none⟩) 2 d1 else .slice none 0 0) vt [⟨#[34]⟩, ⟨#[92]⟩] [(p2, ⟨#[92, 92]⟩), (p1, ⟨#[92, 34]⟩)] w) : ∃ pz dz, w.cell? ⟨b, 34, none⟩ = some (.slice (some ⟨pz, 0, none⟩) 2 dz) ∧ True := ⟨p1, d1, h.cell 34 (by decide), trivial⟩
theorem rep92 {W0 w : World} {b p1 p2 d1 d2 : Nat} {vt : Value} (h : BR W0 b (fun k => if k = 92 then .slice (some ⟨p2, 0, none⟩) 2 d2 else if k = 34 then .slice (some ⟨p1, 0, none⟩) 2 d1 else .slice none 0 0) vt [⟨#[34]⟩, ⟨#[92]⟩] [(p2, ⟨#[92, 92]⟩), (p1, ⟨#[92, 34]⟩)] w) : ∃ pz dz, w.cell? ⟨b, 92, none⟩ = some (.slice (some ⟨pz, 0, none⟩) 2 dz) ∧ True := ⟨p2, d2, h.cell 92 (by decide), trivial⟩
theorem BR.toks2 {W0 w : World} {b : Nat} {m : Nat → Value} {At : Option Addr} {ct : Nat} {Z : List (Nat × ByteArray)} (h : BR W0 b m (.slice At 2 ct) [⟨#[34]⟩, ⟨#[92]⟩] Z w) : ∃ r, At = some ⟨r, 0, none⟩ ∧ w.cell? ⟨r, 0, none⟩ = some (.string ⟨#[34]⟩) ∧ w.cell? ⟨r, 1, none⟩ = some (.string ⟨#[92]⟩) := by
  have hC := (Kd.R_reads' h.row).2.2
  obtain ⟨ad, e, hc⟩ := hC.2.2 (by decide)
  subst e
  obtain ⟨r, rfl⟩ := Kd.R_head h.row
  refine ⟨r, rfl, ?_, ?_⟩
  · obtain ⟨cs, _, hK, hcell⟩ := hc 0 ⟨#[34]⟩ rfl
    obtain rfl : cs = [.string ⟨#[34]⟩] := hK
    exact hcell 0 _ rfl
  · obtain ⟨cs, _, hK, hcell⟩ := hc 1 ⟨#[92]⟩ rfl
    obtain rfl : cs = [.string ⟨#[92]⟩] := hK
    have h1 := hcell 0 _ rfl
    rw [Addr.add_lit] at h1
    exact h1
theorem make_zeros (m : Nat) (hm : m ≤ 1000000) (w : World) : ∃ W', (Instr.makeSlice 42 (.int .i64 (m : Int)) (.int .i64 (m : Int))).run Tryz.prog w = .ok (.slice (some ⟨w.heap.size, 0, none⟩) m m) W' ∧ W'.heap[w.heap.size]? = some (.cells (fillB [] m).toArray 5 (0, 0)) ∧ Below w.heap.size w W' := by
  have hr := print_make (P := Tryz.prog) 42 5 .u8 1 Tryz.underlying42 H.info5 (by decide) m (by omega) w
  refine ⟨_, hr, ?_, (Below.refl _ w).alloc (Nat.le_refl _) _⟩
  have e : madeCells #[.int .u8 0] m = (fillB [] m).toArray := by
    apply Array.ext'
    simp only [madeCells, fillB, byteCells, List.map_nil, List.nil_append, List.length_nil, Nat.sub_zero, Array.toList_map, Array.toList_range]
    rw [List.eq_replicate_iff]
    refine ⟨by rw [List.length_map, List.length_range], fun x hx => ?_⟩
    obtain ⟨j, _, rfl⟩ := List.mem_map.1 hx
    have e : j % (#[Value.int .u8 0] : Array Value).size = 0 := Nat.mod_one j
    rw [e]
    rfl
  rw [e]
  exact blk_new w _
set_option maxRecDepth 100000 in
set_option maxHeartbeats 4000000 in
theorem repl_call (W0 W : World) (b : Nat) (hR : RepB W0 b W) (s : ByteArray) (hs : s.size ≤ 100000) :
    Calls Tryz.prog 129 #[.pointer (some ⟨b, 0, none⟩), .string s] W fun e w' => e = .returned (.string ⟨(replL s.data.toList).toArray⟩) ∧ Below W.heap.size W w' := by
  obtain ⟨vt, p1, p2, d1, d2, hB⟩ := hR
  have HB := Aside0.mk hB
  clear hB
  obtain ⟨l, hl⟩ : ∃ l, s.data.toList = l := ⟨_, rfl⟩
  have hln : l.length = s.size := by rw [← hl]; exact Array.length_toList
  obtain ⟨nn, hnn⟩ : ∃ nn, s.size + ex l = nn := ⟨_, rfl⟩
  have HL := Aside0.mk (And.intro hl (And.intro hln hnn))
  have hex := ex_le l
  rw [hl]
  clear hl
  go_enter Tryz.func129, Tryz.ntmps129
  go_upto_region 3 with (fail)
  rename_i K hK K2 hK2
  have HJ : ∀ (y8 y9 y10 y11 y18 y19 y20 y21 y22 y23 y24 y25 y26 y27 y28 y29 y30 y31 y32 y33 y34 y35 y36 y37 y38 y39 y40 y41 y42 y43 y44 y45 y46 y47 y48 y49 y50 y51 y52 y53 y54 y55 y56 y57 y58 y59 y60 y61 y62 y63 y64 y65 y66 y67 y68 y69 y70 y71 y72 y73 y74 y75 y76 y77 y78 y79 y80 : Value) (z : Int) (av : Bool) (w1 : World), Hid (Below W.heap.size W w1 ∧ z = (nn : Int) ∧ av = decide (0 < ex l)) → K { tmps := #[.pointer (some ⟨b, 0, none⟩), .string s, undef, undef, .string ⟨#[]⟩, .int .i64 z, .bool av, undef, y8, y9, y10, y11, undef, undef, undef, undef, .string s, .int .i64 (s.size : Int), y18, y19, y20, y21, y22, y23, y24, y25, y26, y27, y28, y29, y30, y31, y32, y33, y34, y35, y36, y37, y38, y39, y40, y41, y42, y43, y44, y45, y46, y47, y48, y49, y50, y51, y52, y53, y54, y55, y56, y57, y58, y59, y60, y61, y62, y63, y64, y65, y66, y67, y68, y69, y70, y71, y72, y73, y74, y75, y76, y77, y78, y79, y80, undef, undef, undef, undef, undef, undef, undef, undef, undef, undef, undef, undef, undef, undef, undef, undef, undef, undef, undef, undef, undef, undef, undef, undef, undef, undef, undef, undef, undef, undef, undef, undef, undef, undef, undef, undef, undef, undef, undef, undef, undef], defers := [] } w1 := by
    intro y8 y9 y10 y11 y18 y19 y20 y21 y22 y23 y24 y25 y26 y27 y28 y29 y30 y31 y32 y33 y34 y35 y36 y37 y38 y39 y40 y41 y42 y43 y44 y45 y46 y47 y48 y49 y50 y51 y52 y53 y54 y55 y56 y57 y58 y59 y60 y61 y62 y63 y64 y65 y66 y67 y68 y69 y70 y71 y72 y73 y74 y75 y76 y77 y78 y79 y80 z av w1 hJ
    obtain ⟨hb1, rfl, rfl⟩ := hJ.out
    apply hK
    clear hK K2 hK2 hJ
    have HB1 := Aside0.mk hb1
    have HBB := Aside0.mk (HB.out.below hb1)
    clear hb1 HB
    by_cases he : 0 < ex l
    · have hd : decide (0 < ex l) = true := decide_eq_true he
      rw [hd]
      have hnn2 : nn ≤ 1000000 := by omega
      obtain ⟨w2, hmk, hp, hb2⟩ := make_zeros nn hnn2 w1
      have HP := Aside0.mk hp
      have HB2 := Aside0.mk hb2
      clear hp hb2
      go_upto_region 24 with (fail)
      obtain ⟨p, hpp⟩ : ∃ p, w1.heap.size = p := ⟨_, rfl⟩
      rw [hpp] at HP HB2 ⊢
      have HPP := Aside0.mk hpp
      clear hmk hpp hd he hnn2
      go_loopw [13, 14] (fun vj vi wr => ∃ i j : Nat, i ≤ s.size ∧ vi = .int .i64 i ∧ vj = .int .i64 j ∧ Hid (j = (replL (l.take i)).length ∧ wr.heap[p]? = some (.cells (fillB (replL (l.take i)) nn).toArray 5 (0, 0)) ∧ Below p w1 wr)) (fun _ vi _ => s.size - (Go.RowKit.intOf vi).toNat)
      case atStart => exact ⟨0, 0, Nat.zero_le _, rfl, rfl, Lib.hid ⟨rfl, HP.out, HB2.out⟩⟩
      case round =>
        obtain ⟨i, j, hi, rfl, rfl, hJ⟩ := hrel
        obtain ⟨hj, hcl, hbl⟩ := hJ.out
        clear hJ
        by_cases hlt : i < s.size
        · have hgi : s[i] = l[i]'(by omega) := by
            have := HL.out.1; subst this; exact Array.getElem_toList _ |>.symm
          have HTK := Aside0.mk (show replL (l.take (i + 1)) = replL (l.take i) ++ esc s[i] by rw [take_one l i (by omega), replL_app, replL_one, hgi])
          have hle : (replL (l.take (i + 1))).length ≤ nn := by
            rw [replL_len, List.length_take]; have := ex_take_le l (i + 1); omega
          obtain ⟨c, hc⟩ : ∃ c, s[i] = c := ⟨_, rfl⟩
          rw [hc] at HTK hgi
          have HBW := Aside0.mk (HBB.out.below (HPP.out ▸ hbl))
          have hc256 : c.toNat < 256 := c.toNat_lt
          have HCL := Aside0.mk hcl
          have HBL := Aside0.mk hbl
          have hjn : j + (esc c).length ≤ nn := by rw [HTK.out, List.length_append, ← hj] at hle; exact hle
          clear hcl hbl hle hgi
          rcases HBW.out.rep c with ⟨pz, dz, hcell, hesc, hsrc⟩ | ⟨hcell, hesc⟩
          · rw [hesc] at hjn HTK
            simp only [List.length_cons, List.length_nil, Nat.reduceAdd, Nat.zero_add] at hjn
            have HSRC := Aside0.mk hsrc
            have hne := neq_some ⟨pz, 0, none⟩ 2 dz wr
            have pj : ((j : Int) ≤ (nn : Int)) = True := eq_true (by omega)
            have pn : (nn = j) = False := eq_false (by omega)
            have pc : ((c.toNat : Int) < 256) = True := eq_true (by omega)
            have HJJ := Aside0.mk hj
            clear hsrc hesc hj
            go_upto_region 28 with (fail)
            have HDD := Aside0.mk (show wr.drew.heap[p]? = some (.cells (fillB (replL (l.take i)) nn).toArray 5 (0, 0)) from blk_drew HCL.out)
            have HDB := Aside0.mk (below_drew1 HBL.out)
            have HDS := Aside0.mk (show ∀ j v, (byteCells [92, c])[j]? = some v → wr.drew.cell? (Addr.add ⟨pz, 0, none⟩ j) = some v from HSRC.out)
            have hcd : wr.drew.cell? ⟨b, c.toNat, none⟩ = some (.slice (some ⟨pz, 0, none⟩) 2 dz) := hcell
            clear HCL HBL HSRC hcell hne
            refine start_ (n := 13) (S := fun w' => w'.cell? ⟨b, c.toNat, none⟩ = some (.slice (some ⟨pz, 0, none⟩) 2 dz)) (ds := [10]) #[false, false, false, false, false, false, false, false, false, false, false, false, false] (by kernel_rfl) rfl rfl hcd (fun hHeld => ?_)
            generalize wr.drew = wd at HDD HDB HDS hcd hHeld ⊢
            refine pure_ (i := 0) (N := some 102) (v := ?_) (a' := ?_) #[true, false, false, false, false, false, false, false, false, false, false, false, false] rfl rfl (by kernel_rfl) (fun _ _ _ h => h) (Or.inl ⟨by rfl, ?_⟩) ?_ ?_
            rotate_left
            · intro w'
              go_simp
              with_reducible rfl
            rotate_left
            · simp only [Act.put, List.setIfInBounds_toArray, List.set_cons_zero, List.set_cons_succ, i64_w, i32_w]
              rfl
            refine pure_ (i := 1) (N := some 103) (v := ?_) (a' := ?_) #[true, true, false, false, false, false, false, false, false, false, false, false, false] rfl rfl (by kernel_rfl) (fun _ _ _ h => h) (Or.inl ⟨by rfl, ?_⟩) ?_ ?_
            rotate_left
            · intro w'
              go_simp
              with_reducible rfl
            rotate_left
            · simp only [Act.put, List.setIfInBounds_toArray, List.set_cons_zero, List.set_cons_succ, i64_w, i32_w]
              rfl
            refine pure_ (i := 2) (N := some 104) (v := ?_) (a' := ?_) #[true, true, true, false, false, false, false, false, false, false, false, false, false] rfl rfl (by kernel_rfl) (fun _ _ _ h => h) (Or.inl ⟨by rfl, ?_⟩) ?_ ?_
            rotate_left
            · intro w'
              go_simp
              with_reducible rfl
            rotate_left
            · simp only [Act.put, List.setIfInBounds_toArray, List.set_cons_zero, List.set_cons_succ, i64_w, i32_w]
              rfl
            refine pure_ (i := 3) (N := some 105) (v := ?_) (a' := ?_) #[true, true, true, true, false, false, false, false, false, false, false, false, false] rfl rfl (by kernel_rfl) (fun _ _ _ h => h) (Or.inl ⟨by rfl, ?_⟩) ?_ ?_
            rotate_left
            · intro w'
              go_simp
              with_reducible rfl
            rotate_left
            · simp only [Act.put, List.setIfInBounds_toArray, List.set_cons_zero, List.set_cons_succ, i64_w, i32_w]
              rfl
            refine pure_ (i := 4) (N := some 106) (v := ?_) (a' := ?_) #[true, true, true, true, true, false, false, false, false, false, false, false, false] rfl rfl (by kernel_rfl) (fun _ _ _ h => h) (Or.inl ⟨by rfl, ?_⟩) ?_ ?_
            rotate_left
            · intro w'
              go_simp
              with_reducible rfl
            rotate_left
            · simp only [Act.put, List.setIfInBounds_toArray, List.set_cons_zero, List.set_cons_succ, i64_w, i32_w]
              rfl
            refine pure_ (i := 5) (N := some 107) (v := ?_) (a' := ?_) #[true, true, true, true, true, true, false, false, false, false, false, false, false] rfl rfl (by kernel_rfl) (fun _ _ _ h => h) (Or.inl ⟨by rfl, ?_⟩) ?_ ?_
            rotate_left
            · intro w'
              go_simp
              with_reducible rfl
            rotate_left
            · simp only [Act.put, List.setIfInBounds_toArray, List.set_cons_zero, List.set_cons_succ, i64_w, i32_w]
              rfl
            refine pure_ (i := 6) (N := some 108) (v := ?_) (a' := ?_) #[true, true, true, true, true, true, true, false, false, false, false, false, false] rfl rfl (by kernel_rfl) (fun _ _ _ h => h) (Or.inl ⟨by rfl, ?_⟩) ?_ ?_
            rotate_left
            · intro w'
              go_simp
              with_reducible rfl
            rotate_left
            · simp only [Act.put, List.setIfInBounds_toArray, List.set_cons_zero, List.set_cons_succ, i64_w, i32_w]
              rfl
            refine pure_ (i := 7) (N := some 109) (v := ?_) (a' := ?_) #[true, true, true, true, true, true, true, true, false, false, false, false, false] rfl rfl (by kernel_rfl) (fun _ _ _ h => h) (Or.inl ⟨by rfl, ?_⟩) ?_ ?_
            rotate_left
            · intro w'
              go_simp
              with_reducible rfl
            rotate_left
            · simp only [Act.put, List.setIfInBounds_toArray, List.set_cons_zero, List.set_cons_succ, i64_w, i32_w]
              rfl
            refine pure_ (i := 8) (N := some 110) (v := ?_) (a' := ?_) #[true, true, true, true, true, true, true, true, true, false, false, false, false] rfl rfl (by kernel_rfl) (fun _ _ _ h => h) (Or.inl ⟨by rfl, ?_⟩) ?_ ?_
            rotate_left
            · intro w'
              go_simp
              with_reducible rfl
            rotate_left
            · simp only [Act.put, List.setIfInBounds_toArray, List.set_cons_zero, List.set_cons_succ, i64_w, i32_w]
              rfl
            refine take_ (i := 9) (N := some 111) (v := ?_) (a' := ?_) #[true, true, true, true, true, true, true, true, true, true, false, false, false] rfl rfl (by kernel_rfl) (fun _ _ _ h => h) (Or.inl ⟨by rfl, ?_⟩) hHeld ?_ ?_
            rotate_left
            · rintro w' s0
              go_simp
              with_reducible rfl
            rotate_left
            · simp only [Act.put, List.setIfInBounds_toArray, List.set_cons_zero, List.set_cons_succ, i64_w, i32_w]
              rfl
            refine last_ (i := 10) (N := some 112) #[true, true, true, true, true, true, true, true, true, true, true, false, false] rfl rfl (by kernel_rfl) (by decide) (fun K hK => ?_)
            refine step_copy_splice rfl (.tmp 105) (.tmp 111) 42 42 rfl 5 Tryz.underlying42 size5 (some ⟨p, j, none⟩) (some ⟨pz, 0, none⟩) (nn - j) (nn - j) 2 dz (by rfl) (by rfl) p j (fillB (replL (l.take i)) nn) 5 HDD.out (byteCells [92, c]) (by rw [byteCells_length]; show 2 = min 2 (nn - j); omega) (fun _ => ⟨rfl, _, rfl, HDS.out⟩) ?hfit ?h1 p w1 HDB.out (Nat.le_refl _) ?_
            case hfit => rw [byteCells_length, fillB_len _ _ (by rw [← HJJ.out]; omega)]; show j + 2 ≤ nn; omega
            case h1 => exact byteCells_one _
            intro w9 h9 hb9
            have HB9 := Aside0.mk hb9
            rw [show goInt (byteCells [92, c]).length = .int .i64 2 from rfl]
            clear hb9
            refine hK.out _ _ ?_
            clear hK K
            refine norm_ (a' := ?_) ?_ ?_
            rotate_left
            · show Act.put _ (some 112) _ = _
              simp only [Act.put, List.setIfInBounds_toArray, List.set_cons_zero, List.set_cons_succ, i64_w, i32_w]
              rfl
            refine pure_ (i := 11) (N := some 113) (v := ?_) (a' := ?_) #[true, true, true, true, true, true, true, true, true, true, true, true, false] rfl rfl (by kernel_rfl) (fun _ _ _ h => h) (Or.inl ⟨by rfl, ?_⟩) ?_ ?_
            rotate_left
            · intro w'
              go_simp
              with_reducible rfl
            rotate_left
            · simp only [Act.put, List.setIfInBounds_toArray, List.set_cons_zero, List.set_cons_succ, i64_w, i32_w]
              rfl
            refine pure_ (i := 12) (N := some 13) (v := ?_) (a' := ?_) #[true, true, true, true, true, true, true, true, true, true, true, true, true] rfl rfl (by kernel_rfl) (fun _ _ _ h => h) (Or.inl ⟨by rfl, ?_⟩) ?_ ?_
            rotate_left
            · intro w'
              go_simp
              with_reducible rfl
            rotate_left
            · simp only [Act.put, List.setIfInBounds_toArray, List.set_cons_zero, List.set_cons_succ, i64_w, i32_w]
              rfl
            refine Go.Proofs.YtlpoglkddknedaaGreatDoorW.PrintLast.done_ (by kernel_rfl) ?_
            have hwj : wrap64 ((j : Int) + 2) = ((j + 2 : Nat) : Int) := by rw [IntWalk.wrap64_in _ (by omega)]; rfl
            rw [hwj]
            have H9 := Aside0.mk h9.out
            clear hwj hHeld hcd h9 pj pn pc
            go_wp2
            go_roundw
            case rel => exact ⟨i + 1, j + 2, by omega, by go_num, rfl, Lib.hid ⟨by rw [HTK.out, List.length_append, HJJ.out]; rfl, by
              have h := H9.out
              unfold splice at h
              rw [byteCells_length, ← List.append_assoc, HJJ.out] at h
              rw [HTK.out, ← fillB_splice _ _ _ (by rw [← HJJ.out]; exact hjn)]
              exact h, HB9.out⟩⟩
            case measure => simp [Go.RowKit.intOf]; omega
          · rw [hesc] at hjn HTK
            simp only [List.length_cons, List.length_nil, Nat.reduceAdd, Nat.zero_add] at hjn
            have hne := neq_nil wr
            have HJJ := Aside0.mk hj
            clear hesc
            have hjlt : j < nn := by omega
            obtain ⟨x0, hx0⟩ : ∃ x0, wr.cell? ⟨p, j, none⟩ = some x0 := by
              have hfl : (fillB (replL (l.take i)) nn).length = nn := fillB_len _ _ (by rw [← hj]; omega)
              refine ⟨(fillB (replL (l.take i)) nn)[j]'(by omega), (blk_cell HCL.out j).trans ?_⟩
              rw [List.getElem?_toArray, List.getElem?_eq_getElem]
            have hf0 : wr.frozen? ⟨p, j, none⟩ = false := blk_frozen HCL.out j
            clear hj
            go_wp2
            go_roundw
            case rel => exact ⟨i + 1, j + 1, by omega, by go_num, by go_num, Lib.hid ⟨by rw [HTK.out, List.length_append, HJJ.out]; rfl, by
              rw [HTK.out, ← fillB_set _ _ _ (by rw [← HJJ.out]; exact hjn), ← HJJ.out]
              exact blk_put HCL.out j _ (by simp), HBL.out.setCell (p := ⟨p, j, none⟩) (Nat.le_refl _) _⟩⟩
            case measure => simp [Go.RowKit.intOf]; omega
        · have hin : s.size = i := by omega
          subst hin
          have hfull : l.take s.size = l := List.take_of_length_le (by omega)
          rw [hfull] at hcl hj
          have hlen : (replL l).length = nn := by rw [replL_len]; omega
          rw [fillB_full _ _ hlen] at hcl
          have hcv := run_convert_bytes_back (P := Tryz.prog) wr 42 9 5 ⟨p, 0, none⟩ nn (replL l) Tryz.underlying42 Tryz.underlying5 Tryz.underlying9 (fun k hk => by
            rw [Addr.add_lit, Nat.zero_add]
            refine (blk_cell hcl k).trans ?_
            rw [List.getElem?_toArray]
            simp [byteCells, hk])
          rw [hlen] at hcv
          have HBL := Aside0.mk (HB1.out.trans (hbl.mono (by rw [← HPP.out]; exact HB1.out.size)))
          clear hcl hbl hj hlen hfull hlt hi
          go_wp2
          go_ret
          exact ⟨rfl, HBL.out⟩
    · have hd : decide (0 < ex l) = false := decide_eq_false he
      rw [hd]
      have e0 : (⟨(replL l).toArray⟩ : ByteArray) = s := by
        rw [replL_none l (by omega), ← HL.out.1, ba_eta]
      have HE := Aside0.mk e0
      clear e0
      go_wp2
      go_ret
      exact ⟨by rw [HE.out]; rfl, HB1.out⟩
  have HJW := Aside0.mk HJ
  clear HJ hK
  have c256 := HB.out.cell256
  obtain ⟨At, ct, hvt⟩ := Kd.R_slice HB.out.row
  subst hvt
  have c256 : W.cell? ⟨b, 256, none⟩ = some (.slice At 2 ct) := HB.out.cell256
  by_cases h16 : 16 ≤ s.size
  · have p16 : ((16 : Int) ≤ (s.size : Int)) = True := eq_true (by omega)
    obtain ⟨r, rfl, ht0, ht1⟩ := HB.out.toks2
    obtain ⟨k34, hk34⟩ : ∃ k, l.count 34 = k := ⟨_, rfl⟩
    obtain ⟨k92, hk92⟩ : ∃ k, l.count 92 = k := ⟨_, rfl⟩
    have HC34 := Aside0.mk (show ∀ w, Calls Tryz.prog 59 #[.string s, .string ⟨#[34]⟩] w fun e w' => e = .returned (.int .i64 (k34 : Int)) ∧ w' = w from fun w => by rw [← hk34, ← HL.out.1]; exact Tryz.strings_Count_one s 34 w)
    have HC92 := Aside0.mk (show ∀ w, Calls Tryz.prog 59 #[.string s, .string ⟨#[92]⟩] w fun e w' => e = .returned (.int .i64 (k92 : Int)) ∧ w' = w from fun w => by rw [← hk92, ← HL.out.1]; exact Tryz.strings_Count_one s 92 w)
    have hkk : k34 + k92 = ex l := by rw [← hk34, ← hk92]; rfl
    have HBW := HB
    have HTW := Aside0.mk (And.intro ht0 ht1)
    have HWW := Aside0.mk (Below.refl W.heap.size W)
    have e34 : ((⟨#[34]⟩ : ByteArray)[0]'(by decide)).toNat = 34 := rfl
    have e92 : ((⟨#[92]⟩ : ByteArray)[0]'(by decide)).toNat = 92 := rfl
    clear ht0 ht1 hk34 hk92
    go_upto_region 5 with (fail)
    refine wp_loop_rounds 3 ?_
    by_cases h34 : 0 < k34
    · have b34 : ((k34 : Int) == 0) = false := by simp; omega
      have x0 : W.cell? ⟨r, 0, none⟩ = some (.string ⟨#[34]⟩) := HTW.out.1
      refine rounds_succ.mpr ?_
      go_upto_region 8 with (first
        | (go_at_call 59; (with_reducible refine (HC34.out W).mono ?_); rintro e w' ⟨rfl, hw⟩; rw [hw]; clear hw w'))
      go_upto_region 9 with (fail)
      have HBwd := Aside0.mk (show BR W0 b _ _ _ _ W.drew from HBW.out.below ((Below.refl _ _).drew))
      have HTwd := Aside0.mk (show W.drew.cell? ⟨r, 0, none⟩ = some (.string ⟨#[34]⟩) ∧ W.drew.cell? ⟨r, 1, none⟩ = some (.string ⟨#[92]⟩) from HTW.out)
      have HWwd := Aside0.mk (show Below W.heap.size W W.drew from below_drew1 HWW.out)
      obtain ⟨pz34, dz34, g34, _⟩ := rep34 HBwd.out
      refine start_ (n := 14) (S := fun w' => w'.cell? ⟨b, 34, none⟩ = some (.slice (some ⟨pz34, 0, none⟩) 2 dz34)) (ds := []) #[false, false, false, false, false, false, false, false, false, false, false, false, false, false] (by kernel_rfl) rfl rfl g34 (fun hHeld => ?_)
      generalize W.drew = wd at HBwd HTwd HWwd g34 hHeld ⊢
      refine pure_ (i := 0) (N := some 41) (v := ?_) (a' := ?_) #[true, false, false, false, false, false, false, false, false, false, false, false, false, false] rfl rfl (by kernel_rfl) (fun _ _ _ h => h) (Or.inl ⟨by rfl, ?_⟩) ?_ ?_
      rotate_left
      · intro w'
        go_simp
        with_reducible rfl
      rotate_left
      · simp only [Act.put, List.setIfInBounds_toArray, List.set_cons_zero, List.set_cons_succ, i64_w, i32_w]
        rfl
      refine pure_ (i := 1) (N := some 42) (v := ?_) (a' := ?_) #[true, true, false, false, false, false, false, false, false, false, false, false, false, false] rfl rfl (by kernel_rfl) (fun _ _ _ h => h) (Or.inl ⟨by rfl, ?_⟩) ?_ ?_
      rotate_left
      · intro w'
        go_simp
        with_reducible rfl
      rotate_left
      · simp only [Act.put, List.setIfInBounds_toArray, List.set_cons_zero, List.set_cons_succ, i64_w, i32_w]
        rfl
      refine pure_ (i := 2) (N := some 43) (v := ?_) (a' := ?_) #[true, true, true, false, false, false, false, false, false, false, false, false, false, false] rfl rfl (by kernel_rfl) (fun _ _ _ h => h) (Or.inl ⟨by rfl, ?_⟩) ?_ ?_
      rotate_left
      · intro w'
        go_simp
        with_reducible rfl
      rotate_left
      · simp only [Act.put, List.setIfInBounds_toArray, List.set_cons_zero, List.set_cons_succ, i64_w, i32_w]
        rfl
      refine pure_ (i := 3) (N := some 44) (v := ?_) (a' := ?_) #[true, true, true, true, false, false, false, false, false, false, false, false, false, false] rfl rfl (by kernel_rfl) (fun _ _ _ h => h) (Or.inl ⟨by rfl, ?_⟩) ?_ ?_
      rotate_left
      · intro w'
        go_simp
        with_reducible rfl
      rotate_left
      · simp only [Act.put, List.setIfInBounds_toArray, List.set_cons_zero, List.set_cons_succ, i64_w, i32_w]
        rfl
      refine pure_ (i := 4) (N := some 45) (v := ?_) (a' := ?_) #[true, true, true, true, true, false, false, false, false, false, false, false, false, false] rfl rfl (by kernel_rfl) (fun _ _ _ h => h) (Or.inl ⟨by rfl, ?_⟩) ?_ ?_
      rotate_left
      · intro w'
        go_simp
        with_reducible rfl
      rotate_left
      · simp only [Act.put, List.setIfInBounds_toArray, List.set_cons_zero, List.set_cons_succ, i64_w, i32_w]
        rfl
      refine pure_ (i := 5) (N := some 46) (v := ?_) (a' := ?_) #[true, true, true, true, true, true, false, false, false, false, false, false, false, false] rfl rfl (by kernel_rfl) (fun _ _ _ h => h) (Or.inl ⟨by rfl, ?_⟩) ?_ ?_
      rotate_left
      · intro w'
        go_simp
        with_reducible rfl
      rotate_left
      · simp only [Act.put, List.setIfInBounds_toArray, List.set_cons_zero, List.set_cons_succ, i64_w, i32_w]
        rfl
      refine pure_ (i := 6) (N := some 47) (v := ?_) (a' := ?_) #[true, true, true, true, true, true, true, false, false, false, false, false, false, false] rfl rfl (by kernel_rfl) (fun _ _ _ h => h) (Or.inl ⟨by rfl, ?_⟩) ?_ ?_
      rotate_left
      · intro w'
        go_simp
        with_reducible rfl
      rotate_left
      · simp only [Act.put, List.setIfInBounds_toArray, List.set_cons_zero, List.set_cons_succ, i64_w, i32_w]
        rfl
      refine pure_ (i := 7) (N := some 48) (v := ?_) (a' := ?_) #[true, true, true, true, true, true, true, true, false, false, false, false, false, false] rfl rfl (by kernel_rfl) (fun _ _ _ h => h) (Or.inl ⟨by rfl, ?_⟩) ?_ ?_
      rotate_left
      · intro w'
        go_simp
        with_reducible rfl
      rotate_left
      · simp only [Act.put, List.setIfInBounds_toArray, List.set_cons_zero, List.set_cons_succ, i64_w, i32_w]
        rfl
      refine take_ (i := 8) (N := some 49) (v := ?_) (a' := ?_) #[true, true, true, true, true, true, true, true, true, false, false, false, false, false] rfl rfl (by kernel_rfl) (fun _ _ _ h => h) (Or.inl ⟨by rfl, ?_⟩) hHeld ?_ ?_
      rotate_left
      · rintro w' s0
        go_simp
        with_reducible rfl
      rotate_left
      · simp only [Act.put, List.setIfInBounds_toArray, List.set_cons_zero, List.set_cons_succ, i64_w, i32_w]
        rfl
      refine pure_ (i := 9) (N := some 50) (v := ?_) (a' := ?_) #[true, true, true, true, true, true, true, true, true, true, false, false, false, false] rfl rfl (by kernel_rfl) (fun _ _ _ h => h) (Or.inl ⟨by rfl, ?_⟩) ?_ ?_
      rotate_left
      · intro w'
        go_simp
        with_reducible rfl
      rotate_left
      · simp only [Act.put, List.setIfInBounds_toArray, List.set_cons_zero, List.set_cons_succ, i64_w, i32_w]
        rfl
      refine pure_ (i := 10) (N := some 51) (v := ?_) (a' := ?_) #[true, true, true, true, true, true, true, true, true, true, true, false, false, false] rfl rfl (by kernel_rfl) (fun _ _ _ h => h) (Or.inl ⟨by rfl, ?_⟩) ?_ ?_
      rotate_left
      · intro w'
        go_simp
        with_reducible rfl
      rotate_left
      · simp only [Act.put, List.setIfInBounds_toArray, List.set_cons_zero, List.set_cons_succ, i64_w, i32_w]
        rfl
      refine pure_ (i := 11) (N := some 52) (v := ?_) (a' := ?_) #[true, true, true, true, true, true, true, true, true, true, true, true, false, false] rfl rfl (by kernel_rfl) (fun _ _ _ h => h) (Or.inl ⟨by rfl, ?_⟩) ?_ ?_
      rotate_left
      · intro w'
        go_simp
        with_reducible rfl
      rotate_left
      · simp only [Act.put, List.setIfInBounds_toArray, List.set_cons_zero, List.set_cons_succ, i64_w, i32_w]
        rfl
      refine pure_ (i := 12) (N := some 53) (v := ?_) (a' := ?_) #[true, true, true, true, true, true, true, true, true, true, true, true, true, false] rfl rfl (by kernel_rfl) (fun _ _ _ h => h) (Or.inl ⟨by rfl, ?_⟩) ?_ ?_
      rotate_left
      · intro w'
        go_simp
        with_reducible rfl
      rotate_left
      · simp only [Act.put, List.setIfInBounds_toArray, List.set_cons_zero, List.set_cons_succ, i64_w, i32_w]
        rfl
      refine pure_ (i := 13) (N := some 5) (v := ?_) (a' := ?_) #[true, true, true, true, true, true, true, true, true, true, true, true, true, true] rfl rfl (by kernel_rfl) (fun _ _ _ h => h) (Or.inl ⟨by rfl, ?_⟩) ?_ ?_
      rotate_left
      · intro w'
        go_simp
        with_reducible rfl
      rotate_left
      · simp only [Act.put, List.setIfInBounds_toArray, List.set_cons_zero, List.set_cons_succ, i64_w, i32_w]
        rfl
      refine Go.Proofs.YtlpoglkddknedaaGreatDoorW.PrintLast.done_ (by kernel_rfl) ?_
      clear hHeld g34 x0
      go_wp2
      rw [zed s.size k34 (by omega) (by omega)]
      obtain ⟨n5, hn5⟩ : ∃ n, s.size + k34 = n := ⟨_, rfl⟩
      rw [hn5]
      by_cases h92 : 0 < k92
      · have b92 : ((k92 : Int) == 0) = false := by simp; omega
        have x1 : wd.cell? ⟨r, 1, none⟩ = some (.string ⟨#[92]⟩) := HTwd.out.2
        refine rounds_succ.mpr ?_
        go_upto_region 8 with (first
          | (go_at_call 59; (with_reducible refine (HC92.out wd).mono ?_); rintro e w' ⟨rfl, hw⟩; rw [hw]; clear hw w'))
        go_upto_region 9 with (fail)
        have HBwe := Aside0.mk (show BR W0 b _ _ _ _ wd.drew from HBwd.out.below ((Below.refl _ _).drew))
        have HTwe := Aside0.mk (show wd.drew.cell? ⟨r, 0, none⟩ = some (.string ⟨#[34]⟩) ∧ wd.drew.cell? ⟨r, 1, none⟩ = some (.string ⟨#[92]⟩) from HTwd.out)
        have HWwe := Aside0.mk (show Below W.heap.size W wd.drew from below_drew1 HWwd.out)
        obtain ⟨pz92, dz92, g92, _⟩ := rep92 HBwe.out
        refine start_ (n := 14) (S := fun w' => w'.cell? ⟨b, 92, none⟩ = some (.slice (some ⟨pz92, 0, none⟩) 2 dz92)) (ds := []) #[false, false, false, false, false, false, false, false, false, false, false, false, false, false] (by kernel_rfl) rfl rfl g92 (fun hHeld => ?_)
        generalize wd.drew = we at HBwe HTwe HWwe g92 hHeld ⊢
        refine pure_ (i := 0) (N := some 41) (v := ?_) (a' := ?_) #[true, false, false, false, false, false, false, false, false, false, false, false, false, false] rfl rfl (by kernel_rfl) (fun _ _ _ h => h) (Or.inl ⟨by rfl, ?_⟩) ?_ ?_
        rotate_left
        · intro w'
          go_simp
          with_reducible rfl
        rotate_left
        · simp only [Act.put, List.setIfInBounds_toArray, List.set_cons_zero, List.set_cons_succ, i64_w, i32_w]
          rfl
        refine pure_ (i := 1) (N := some 42) (v := ?_) (a' := ?_) #[true, true, false, false, false, false, false, false, false, false, false, false, false, false] rfl rfl (by kernel_rfl) (fun _ _ _ h => h) (Or.inl ⟨by rfl, ?_⟩) ?_ ?_
        rotate_left
        · intro w'
          go_simp
          with_reducible rfl
        rotate_left
        · simp only [Act.put, List.setIfInBounds_toArray, List.set_cons_zero, List.set_cons_succ, i64_w, i32_w]
          rfl
        refine pure_ (i := 2) (N := some 43) (v := ?_) (a' := ?_) #[true, true, true, false, false, false, false, false, false, false, false, false, false, false] rfl rfl (by kernel_rfl) (fun _ _ _ h => h) (Or.inl ⟨by rfl, ?_⟩) ?_ ?_
        rotate_left
        · intro w'
          go_simp
          with_reducible rfl
        rotate_left
        · simp only [Act.put, List.setIfInBounds_toArray, List.set_cons_zero, List.set_cons_succ, i64_w, i32_w]
          rfl
        refine pure_ (i := 3) (N := some 44) (v := ?_) (a' := ?_) #[true, true, true, true, false, false, false, false, false, false, false, false, false, false] rfl rfl (by kernel_rfl) (fun _ _ _ h => h) (Or.inl ⟨by rfl, ?_⟩) ?_ ?_
        rotate_left
        · intro w'
          go_simp
          with_reducible rfl
        rotate_left
        · simp only [Act.put, List.setIfInBounds_toArray, List.set_cons_zero, List.set_cons_succ, i64_w, i32_w]
          rfl
        refine pure_ (i := 4) (N := some 45) (v := ?_) (a' := ?_) #[true, true, true, true, true, false, false, false, false, false, false, false, false, false] rfl rfl (by kernel_rfl) (fun _ _ _ h => h) (Or.inl ⟨by rfl, ?_⟩) ?_ ?_
        rotate_left
        · intro w'
          go_simp
          with_reducible rfl
        rotate_left
        · simp only [Act.put, List.setIfInBounds_toArray, List.set_cons_zero, List.set_cons_succ, i64_w, i32_w]
          rfl
        refine pure_ (i := 5) (N := some 46) (v := ?_) (a' := ?_) #[true, true, true, true, true, true, false, false, false, false, false, false, false, false] rfl rfl (by kernel_rfl) (fun _ _ _ h => h) (Or.inl ⟨by rfl, ?_⟩) ?_ ?_
        rotate_left
        · intro w'
          go_simp
          with_reducible rfl
        rotate_left
        · simp only [Act.put, List.setIfInBounds_toArray, List.set_cons_zero, List.set_cons_succ, i64_w, i32_w]
          rfl
        refine pure_ (i := 6) (N := some 47) (v := ?_) (a' := ?_) #[true, true, true, true, true, true, true, false, false, false, false, false, false, false] rfl rfl (by kernel_rfl) (fun _ _ _ h => h) (Or.inl ⟨by rfl, ?_⟩) ?_ ?_
        rotate_left
        · intro w'
          go_simp
          with_reducible rfl
        rotate_left
        · simp only [Act.put, List.setIfInBounds_toArray, List.set_cons_zero, List.set_cons_succ, i64_w, i32_w]
          rfl
        refine pure_ (i := 7) (N := some 48) (v := ?_) (a' := ?_) #[true, true, true, true, true, true, true, true, false, false, false, false, false, false] rfl rfl (by kernel_rfl) (fun _ _ _ h => h) (Or.inl ⟨by rfl, ?_⟩) ?_ ?_
        rotate_left
        · intro w'
          go_simp
          with_reducible rfl
        rotate_left
        · simp only [Act.put, List.setIfInBounds_toArray, List.set_cons_zero, List.set_cons_succ, i64_w, i32_w]
          rfl
        refine take_ (i := 8) (N := some 49) (v := ?_) (a' := ?_) #[true, true, true, true, true, true, true, true, true, false, false, false, false, false] rfl rfl (by kernel_rfl) (fun _ _ _ h => h) (Or.inl ⟨by rfl, ?_⟩) hHeld ?_ ?_
        rotate_left
        · rintro w' s0
          go_simp
          with_reducible rfl
        rotate_left
        · simp only [Act.put, List.setIfInBounds_toArray, List.set_cons_zero, List.set_cons_succ, i64_w, i32_w]
          rfl
        refine pure_ (i := 9) (N := some 50) (v := ?_) (a' := ?_) #[true, true, true, true, true, true, true, true, true, true, false, false, false, false] rfl rfl (by kernel_rfl) (fun _ _ _ h => h) (Or.inl ⟨by rfl, ?_⟩) ?_ ?_
        rotate_left
        · intro w'
          go_simp
          with_reducible rfl
        rotate_left
        · simp only [Act.put, List.setIfInBounds_toArray, List.set_cons_zero, List.set_cons_succ, i64_w, i32_w]
          rfl
        refine pure_ (i := 10) (N := some 51) (v := ?_) (a' := ?_) #[true, true, true, true, true, true, true, true, true, true, true, false, false, false] rfl rfl (by kernel_rfl) (fun _ _ _ h => h) (Or.inl ⟨by rfl, ?_⟩) ?_ ?_
        rotate_left
        · intro w'
          go_simp
          with_reducible rfl
        rotate_left
        · simp only [Act.put, List.setIfInBounds_toArray, List.set_cons_zero, List.set_cons_succ, i64_w, i32_w]
          rfl
        refine pure_ (i := 11) (N := some 52) (v := ?_) (a' := ?_) #[true, true, true, true, true, true, true, true, true, true, true, true, false, false] rfl rfl (by kernel_rfl) (fun _ _ _ h => h) (Or.inl ⟨by rfl, ?_⟩) ?_ ?_
        rotate_left
        · intro w'
          go_simp
          with_reducible rfl
        rotate_left
        · simp only [Act.put, List.setIfInBounds_toArray, List.set_cons_zero, List.set_cons_succ, i64_w, i32_w]
          rfl
        refine pure_ (i := 12) (N := some 53) (v := ?_) (a' := ?_) #[true, true, true, true, true, true, true, true, true, true, true, true, true, false] rfl rfl (by kernel_rfl) (fun _ _ _ h => h) (Or.inl ⟨by rfl, ?_⟩) ?_ ?_
        rotate_left
        · intro w'
          go_simp
          with_reducible rfl
        rotate_left
        · simp only [Act.put, List.setIfInBounds_toArray, List.set_cons_zero, List.set_cons_succ, i64_w, i32_w]
          rfl
        refine pure_ (i := 13) (N := some 5) (v := ?_) (a' := ?_) #[true, true, true, true, true, true, true, true, true, true, true, true, true, true] rfl rfl (by kernel_rfl) (fun _ _ _ h => h) (Or.inl ⟨by rfl, ?_⟩) ?_ ?_
        rotate_left
        · intro w'
          go_simp
          with_reducible rfl
        rotate_left
        · simp only [Act.put, List.setIfInBounds_toArray, List.set_cons_zero, List.set_cons_succ, i64_w, i32_w]
          rfl
        refine Go.Proofs.YtlpoglkddknedaaGreatDoorW.PrintLast.done_ (by kernel_rfl) ?_
        clear hHeld g92 x1
        go_wp2
        rw [zed n5 k92 (by omega) (by omega)]
        obtain ⟨n6, hn6⟩ : ∃ n, n5 + k92 = n := ⟨_, rfl⟩
        rw [hn6]
        refine rounds_succ.mpr ?_
        go_wp2
        exact HJW.out _ _ _ _ _ _ _ _ _ _ _ _ _ _ _ _ _ _ _ _ _ _ _ _ _ _ _ _ _ _ _ _ _ _ _ _ _ _ _ _ _ _ _ _ _ _ _ _ _ _ _ _ _ _ _ _ _ _ _ _ _ _ _ _ _ _ _ (n6 : Int) true we (Lib.hid ⟨HWwe.out, by omega, by exact (decide_eq_true (by omega)).symm⟩)
      · have b92 : ((k92 : Int) == 0) = true := by simp; omega
        have x1 : wd.cell? ⟨r, 1, none⟩ = some (.string ⟨#[92]⟩) := HTwd.out.2
        refine rounds_succ.mpr ?_
        go_upto_region 8 with (first
          | (go_at_call 59; (with_reducible refine (HC92.out wd).mono ?_); rintro e w' ⟨rfl, hw⟩; rw [hw]; clear hw w'))
        go_wp2
        clear x1
        refine rounds_succ.mpr ?_
        go_wp2
        exact HJW.out _ _ _ _ _ _ _ _ _ _ _ _ _ _ _ _ _ _ _ _ _ _ _ _ _ _ _ _ _ _ _ _ _ _ _ _ _ _ _ _ _ _ _ _ _ _ _ _ _ _ _ _ _ _ _ _ _ _ _ _ _ _ _ _ _ _ _ (n5 : Int) true wd (Lib.hid ⟨HWwd.out, by omega, by exact (decide_eq_true (by omega)).symm⟩)
    · have b34 : ((k34 : Int) == 0) = true := by simp; omega
      have x0 : W.cell? ⟨r, 0, none⟩ = some (.string ⟨#[34]⟩) := HTW.out.1
      refine rounds_succ.mpr ?_
      go_upto_region 8 with (first
        | (go_at_call 59; (with_reducible refine (HC34.out W).mono ?_); rintro e w' ⟨rfl, hw⟩; rw [hw]; clear hw w'))
      go_wp2
      clear x0
      by_cases h92 : 0 < k92
      · have b92 : ((k92 : Int) == 0) = false := by simp; omega
        have x1 : W.cell? ⟨r, 1, none⟩ = some (.string ⟨#[92]⟩) := HTW.out.2
        refine rounds_succ.mpr ?_
        go_upto_region 8 with (first
          | (go_at_call 59; (with_reducible refine (HC92.out W).mono ?_); rintro e w' ⟨rfl, hw⟩; rw [hw]; clear hw w'))
        go_upto_region 9 with (fail)
        have HBwe := Aside0.mk (show BR W0 b _ _ _ _ W.drew from HBW.out.below ((Below.refl _ _).drew))
        have HTwe := Aside0.mk (show W.drew.cell? ⟨r, 0, none⟩ = some (.string ⟨#[34]⟩) ∧ W.drew.cell? ⟨r, 1, none⟩ = some (.string ⟨#[92]⟩) from HTW.out)
        have HWwe := Aside0.mk (show Below W.heap.size W W.drew from below_drew1 HWW.out)
        obtain ⟨pz92, dz92, g92, _⟩ := rep92 HBwe.out
        refine start_ (n := 14) (S := fun w' => w'.cell? ⟨b, 92, none⟩ = some (.slice (some ⟨pz92, 0, none⟩) 2 dz92)) (ds := []) #[false, false, false, false, false, false, false, false, false, false, false, false, false, false] (by kernel_rfl) rfl rfl g92 (fun hHeld => ?_)
        generalize W.drew = we at HBwe HTwe HWwe g92 hHeld ⊢
        refine pure_ (i := 0) (N := some 41) (v := ?_) (a' := ?_) #[true, false, false, false, false, false, false, false, false, false, false, false, false, false] rfl rfl (by kernel_rfl) (fun _ _ _ h => h) (Or.inl ⟨by rfl, ?_⟩) ?_ ?_
        rotate_left
        · intro w'
          go_simp
          with_reducible rfl
        rotate_left
        · simp only [Act.put, List.setIfInBounds_toArray, List.set_cons_zero, List.set_cons_succ, i64_w, i32_w]
          rfl
        refine pure_ (i := 1) (N := some 42) (v := ?_) (a' := ?_) #[true, true, false, false, false, false, false, false, false, false, false, false, false, false] rfl rfl (by kernel_rfl) (fun _ _ _ h => h) (Or.inl ⟨by rfl, ?_⟩) ?_ ?_
        rotate_left
        · intro w'
          go_simp
          with_reducible rfl
        rotate_left
        · simp only [Act.put, List.setIfInBounds_toArray, List.set_cons_zero, List.set_cons_succ, i64_w, i32_w]
          rfl
        refine pure_ (i := 2) (N := some 43) (v := ?_) (a' := ?_) #[true, true, true, false, false, false, false, false, false, false, false, false, false, false] rfl rfl (by kernel_rfl) (fun _ _ _ h => h) (Or.inl ⟨by rfl, ?_⟩) ?_ ?_
        rotate_left
        · intro w'
          go_simp
          with_reducible rfl
        rotate_left
        · simp only [Act.put, List.setIfInBounds_toArray, List.set_cons_zero, List.set_cons_succ, i64_w, i32_w]
          rfl
        refine pure_ (i := 3) (N := some 44) (v := ?_) (a' := ?_) #[true, true, true, true, false, false, false, false, false, false, false, false, false, false] rfl rfl (by kernel_rfl) (fun _ _ _ h => h) (Or.inl ⟨by rfl, ?_⟩) ?_ ?_
        rotate_left
        · intro w'
          go_simp
          with_reducible rfl
        rotate_left
        · simp only [Act.put, List.setIfInBounds_toArray, List.set_cons_zero, List.set_cons_succ, i64_w, i32_w]
          rfl
        refine pure_ (i := 4) (N := some 45) (v := ?_) (a' := ?_) #[true, true, true, true, true, false, false, false, false, false, false, false, false, false] rfl rfl (by kernel_rfl) (fun _ _ _ h => h) (Or.inl ⟨by rfl, ?_⟩) ?_ ?_
        rotate_left
        · intro w'
          go_simp
          with_reducible rfl
        rotate_left
        · simp only [Act.put, List.setIfInBounds_toArray, List.set_cons_zero, List.set_cons_succ, i64_w, i32_w]
          rfl
        refine pure_ (i := 5) (N := some 46) (v := ?_) (a' := ?_) #[true, true, true, true, true, true, false, false, false, false, false, false, false, false] rfl rfl (by kernel_rfl) (fun _ _ _ h => h) (Or.inl ⟨by rfl, ?_⟩) ?_ ?_
        rotate_left
        · intro w'
          go_simp
          with_reducible rfl
        rotate_left
        · simp only [Act.put, List.setIfInBounds_toArray, List.set_cons_zero, List.set_cons_succ, i64_w, i32_w]
          rfl
        refine pure_ (i := 6) (N := some 47) (v := ?_) (a' := ?_) #[true, true, true, true, true, true, true, false, false, false, false, false, false, false] rfl rfl (by kernel_rfl) (fun _ _ _ h => h) (Or.inl ⟨by rfl, ?_⟩) ?_ ?_
        rotate_left
        · intro w'
          go_simp
          with_reducible rfl
        rotate_left
        · simp only [Act.put, List.setIfInBounds_toArray, List.set_cons_zero, List.set_cons_succ, i64_w, i32_w]
          rfl
        refine pure_ (i := 7) (N := some 48) (v := ?_) (a' := ?_) #[true, true, true, true, true, true, true, true, false, false, false, false, false, false] rfl rfl (by kernel_rfl) (fun _ _ _ h => h) (Or.inl ⟨by rfl, ?_⟩) ?_ ?_
        rotate_left
        · intro w'
          go_simp
          with_reducible rfl
        rotate_left
        · simp only [Act.put, List.setIfInBounds_toArray, List.set_cons_zero, List.set_cons_succ, i64_w, i32_w]
          rfl
        refine take_ (i := 8) (N := some 49) (v := ?_) (a' := ?_) #[true, true, true, true, true, true, true, true, true, false, false, false, false, false] rfl rfl (by kernel_rfl) (fun _ _ _ h => h) (Or.inl ⟨by rfl, ?_⟩) hHeld ?_ ?_
        rotate_left
        · rintro w' s0
          go_simp
          with_reducible rfl
        rotate_left
        · simp only [Act.put, List.setIfInBounds_toArray, List.set_cons_zero, List.set_cons_succ, i64_w, i32_w]
          rfl
        refine pure_ (i := 9) (N := some 50) (v := ?_) (a' := ?_) #[true, true, true, true, true, true, true, true, true, true, false, false, false, false] rfl rfl (by kernel_rfl) (fun _ _ _ h => h) (Or.inl ⟨by rfl, ?_⟩) ?_ ?_
        rotate_left
        · intro w'
          go_simp
          with_reducible rfl
        rotate_left
        · simp only [Act.put, List.setIfInBounds_toArray, List.set_cons_zero, List.set_cons_succ, i64_w, i32_w]
          rfl
        refine pure_ (i := 10) (N := some 51) (v := ?_) (a' := ?_) #[true, true, true, true, true, true, true, true, true, true, true, false, false, false] rfl rfl (by kernel_rfl) (fun _ _ _ h => h) (Or.inl ⟨by rfl, ?_⟩) ?_ ?_
        rotate_left
        · intro w'
          go_simp
          with_reducible rfl
        rotate_left
        · simp only [Act.put, List.setIfInBounds_toArray, List.set_cons_zero, List.set_cons_succ, i64_w, i32_w]
          rfl
        refine pure_ (i := 11) (N := some 52) (v := ?_) (a' := ?_) #[true, true, true, true, true, true, true, true, true, true, true, true, false, false] rfl rfl (by kernel_rfl) (fun _ _ _ h => h) (Or.inl ⟨by rfl, ?_⟩) ?_ ?_
        rotate_left
        · intro w'
          go_simp
          with_reducible rfl
        rotate_left
        · simp only [Act.put, List.setIfInBounds_toArray, List.set_cons_zero, List.set_cons_succ, i64_w, i32_w]
          rfl
        refine pure_ (i := 12) (N := some 53) (v := ?_) (a' := ?_) #[true, true, true, true, true, true, true, true, true, true, true, true, true, false] rfl rfl (by kernel_rfl) (fun _ _ _ h => h) (Or.inl ⟨by rfl, ?_⟩) ?_ ?_
        rotate_left
        · intro w'
          go_simp
          with_reducible rfl
        rotate_left
        · simp only [Act.put, List.setIfInBounds_toArray, List.set_cons_zero, List.set_cons_succ, i64_w, i32_w]
          rfl
        refine pure_ (i := 13) (N := some 5) (v := ?_) (a' := ?_) #[true, true, true, true, true, true, true, true, true, true, true, true, true, true] rfl rfl (by kernel_rfl) (fun _ _ _ h => h) (Or.inl ⟨by rfl, ?_⟩) ?_ ?_
        rotate_left
        · intro w'
          go_simp
          with_reducible rfl
        rotate_left
        · simp only [Act.put, List.setIfInBounds_toArray, List.set_cons_zero, List.set_cons_succ, i64_w, i32_w]
          rfl
        refine Go.Proofs.YtlpoglkddknedaaGreatDoorW.PrintLast.done_ (by kernel_rfl) ?_
        clear hHeld g92 x1
        go_wp2
        rw [zed s.size k92 (by omega) (by omega)]
        obtain ⟨n6, hn6⟩ : ∃ n, s.size + k92 = n := ⟨_, rfl⟩
        rw [hn6]
        refine rounds_succ.mpr ?_
        go_wp2
        exact HJW.out _ _ _ _ _ _ _ _ _ _ _ _ _ _ _ _ _ _ _ _ _ _ _ _ _ _ _ _ _ _ _ _ _ _ _ _ _ _ _ _ _ _ _ _ _ _ _ _ _ _ _ _ _ _ _ _ _ _ _ _ _ _ _ _ _ _ _ (n6 : Int) true we (Lib.hid ⟨HWwe.out, by omega, by exact (decide_eq_true (by omega)).symm⟩)
      · have b92 : ((k92 : Int) == 0) = true := by simp; omega
        have x1 : W.cell? ⟨r, 1, none⟩ = some (.string ⟨#[92]⟩) := HTW.out.2
        refine rounds_succ.mpr ?_
        go_upto_region 8 with (first
          | (go_at_call 59; (with_reducible refine (HC92.out W).mono ?_); rintro e w' ⟨rfl, hw⟩; rw [hw]; clear hw w'))
        go_wp2
        clear x1
        refine rounds_succ.mpr ?_
        go_wp2
        exact HJW.out _ _ _ _ _ _ _ _ _ _ _ _ _ _ _ _ _ _ _ _ _ _ _ _ _ _ _ _ _ _ _ _ _ _ _ _ _ _ _ _ _ _ _ _ _ _ _ _ _ _ _ _ _ _ _ _ _ _ _ _ _ _ _ _ _ _ _ (s.size : Int) false W (Lib.hid ⟨HWW.out, by omega, by exact (decide_eq_false (by omega)).symm⟩)
  · have p16 : ((16 : Int) ≤ (s.size : Int)) = False := eq_false (by omega)
    go_upto_region 13 with (fail)
    go_loopw [5, 6, 10] (fun v5 v6 v10 wr => ∃ i : Nat, ∃ z : Int, ∃ av : Bool, i ≤ s.size ∧ v10 = .int .i64 i ∧ v5 = .int .i64 z ∧ v6 = .bool av ∧ Hid (z = ((s.size + ex (l.take i) : Nat) : Int) ∧ av = decide (0 < ex (l.take i)) ∧ Below W.heap.size W wr)) (fun _ _ vi _ => s.size - (Go.RowKit.intOf vi).toNat)
    case atStart => exact ⟨0, s.size, false, Nat.zero_le _, rfl, rfl, rfl, Lib.hid ⟨rfl, rfl, Below.refl _ _⟩⟩
    case round =>
      obtain ⟨i, z, av, hi, rfl, rfl, rfl, hJ⟩ := hrel
      obtain ⟨hz, hav, hbl⟩ := hJ.out
      clear hJ
      by_cases hlt : i < s.size
      · have hgi : s[i] = l[i]'(by omega) := by
          have := HL.out.1; subst this; exact Array.getElem_toList _ |>.symm
        have HTK := Aside0.mk (show ex (l.take (i + 1)) = ex (l.take i) + ex [s[i]] by rw [ex_take l i (by omega), hgi])
        obtain ⟨c, hc⟩ : ∃ c, s[i] = c := ⟨_, rfl⟩
        rw [hc] at HTK hgi
        have hle := ex_take_le l i
        have hz2 : z ≤ 1000000 := by omega
        have hz0 : 0 ≤ z := by omega
        have HBW := Aside0.mk (HB.out.below hbl)
        have hc256 : c.toNat < 256 := c.toNat_lt
        have HBL := Aside0.mk hbl
        have HZ := Aside0.mk (And.intro hz hav)
        clear hbl hgi hz hav
        rcases HBW.out.rep c with ⟨pz, dz, hcell, hesc, hsrc⟩ | ⟨hcell, hesc⟩
        · have hone : ex [c] = 1 := by have := esc_len c; rw [hesc] at this; simp only [List.length_cons, List.length_nil] at this; omega
          have HON := Aside0.mk hone
          have hne := neq_some ⟨pz, 0, none⟩ 2 dz wr
          clear hsrc hesc hone
          go_wp2
          go_roundw
          case rel => exact ⟨i + 1, z + 1, true, by omega, by go_num, rfl, rfl, Lib.hid ⟨by rw [HTK.out, HON.out]; have := HZ.out.1; omega, by rw [HTK.out, HON.out]; exact (decide_eq_true (by omega)).symm, HBL.out⟩⟩
          case measure => simp [Go.RowKit.intOf]; omega
        · have hone : ex [c] = 0 := by have := esc_len c; rw [hesc] at this; simp only [List.length_cons, List.length_nil] at this; omega
          have HON := Aside0.mk hone
          have hne := neq_nil wr
          clear hesc hone
          go_wp2
          go_roundw
          case rel => exact ⟨i + 1, z, av, by omega, by go_num, rfl, rfl, Lib.hid ⟨by rw [HTK.out, HON.out]; exact HZ.out.1, by rw [HTK.out, HON.out]; exact HZ.out.2, HBL.out⟩⟩
          case measure => simp [Go.RowKit.intOf]; omega
      · have hin : s.size = i := by omega
        subst hin
        have hfull : l.take s.size = l := List.take_of_length_le (by omega)
        rw [hfull] at hz hav
        clear hi hlt
        go_wp2
        exact HJW.out _ _ _ _ _ _ _ _ _ _ _ _ _ _ _ _ _ _ _ _ _ _ _ _ _ _ _ _ _ _ _ _ _ _ _ _ _ _ _ _ _ _ _ _ _ _ _ _ _ _ _ _ _ _ _ _ _ _ _ _ _ _ _ _ _ _ _ z av wr (Lib.hid ⟨hbl, by rw [hz, hnn], hav⟩)
end Go.Proofs.YtlpoglkddknedaaGreatDoor.R

namespace Go.Proofs.YtlpoglkddknedaaGreatDoor.R
open Go.RowKit Go.Lib Go.Proofs.YtlpoglkddknedaaGreatDoor.T Go.Proofs.YtlpoglkddknedaaGreatDoor.H Go.Proofs.YtlpoglkddknedaaGreatDoorW.PrintWords Go.Proofs.YtlpoglkddknedaaGreatDoorW.PrintLast
set_option linter.unusedVariables false
set_option linter.unusedSimpArgs false
theorem Below.both {B g j : Nat} {W w : World} {cs : Array Value} {t : TypeId} (hb : Below B W w) (h : W.heap[g]? = some (.cells cs t (0, 0))) (hg : g < B) (v : Value) : Below B (W.setCell ⟨g, j, none⟩ v) (w.setCell ⟨g, j, none⟩ v) where
  os := hb.os
  tape := hb.tape
  output := hb.output
  size := by rw [World.size_setCell, World.size_setCell]; exact hb.size
  block := fun k hk => by
    by_cases e : k = g
    · subst e
      rw [blk_put h j v rfl, blk_put ((hb.block k hk).trans h) j v rfl]
    · rw [Below.heap_setCell _ _ _ _ e, Below.heap_setCell _ _ _ _ e]; exact hb.block k hk
theorem BR.setG {W w : World} {b g j : Nat} {m : Nat → Value} {vt : Value} {toks : List ByteArray} {Z : List (Nat × ByteArray)} {cs : Array Value} {t : TypeId} (h : BR W b m vt toks Z w) (hg : W.heap[g]? = some (.cells cs t (0, 0))) (v : Value) : BR (W.setCell ⟨g, j, none⟩ v) b m vt toks Z (w.setCell ⟨g, j, none⟩ v) := by
  have hlt := blk_lt hg
  exact {
    bb := by obtain ⟨L, h1, h2⟩ := h.bb; exact ⟨L, blk_far h1 (by have := h.lb; show b ≠ g; omega) v, h2⟩
    row := by
      rw [World.size_setCell]
      have h1 := Kd.R_mono (Kd.R_bound h.row) (ok' := fun k => (k ≠ b ∧ ∀ z ∈ Z, k ≠ z.1) ∧ W.heap.size ≤ k) (fun k hk => ⟨hk.1, hk.2.1⟩)
      exact Kd.R_mono (Kd.R_far (p := ⟨g, j, none⟩) h1 (fun k hk => by have := hk.2; show k ≠ g; omega) v) (fun k hk => hk.1)
    bl := by rw [World.size_setCell]; exact Below.both h.bl hg hlt v
    lb := by rw [World.size_setCell]; exact h.lb
    rows := fun z hz => ⟨RowB.far (h.rows z hz).1 (by have := h.zb z hz; show z.1 ≠ g; omega) v, (h.rows z hz).2⟩
    zb := fun z hz => by rw [World.size_setCell]; exact h.zb z hz }
/-- What NewReplacer answers. -/
def NR (w : World) (g : Nat) : Prop := ∃ q c, RB w g 0 0 .nilIface (.slice (some ⟨q, 0, none⟩) 4 c) ∧ 4 ≤ c ∧ q ≠ g ∧ w.cell? ⟨q, 0, none⟩ = some (.string ⟨#[92]⟩) ∧ w.cell? ⟨q, 1, none⟩ = some (.string ⟨#[92, 92]⟩) ∧ w.cell? ⟨q, 2, none⟩ = some (.string ⟨#[34]⟩) ∧ w.cell? ⟨q, 3, none⟩ = some (.string ⟨#[92, 34]⟩)
theorem NR.below {w w1 : World} {g : Nat} (h : NR w g) (hb : Below w.heap.size w w1) : NR w1 g := by
  obtain ⟨q, c, h0, h1, h2, h3, h4, h5, h6⟩ := h
  exact ⟨q, c, blk_below h0 hb, h1, h2, keepC h3 hb, keepC h4 hb, keepC h5 hb, keepC h6 hb⟩
theorem quote_call (w : World) (g : Nat) (h : NR w g) (s : ByteArray) (hs : s.size ≤ 100000) :
    Calls Tryz.prog 29 #[.pointer (some ⟨g, 0, none⟩), .string s] w fun e w' => e = .returned (.string ⟨(replL s.data.toList).toArray⟩) ∧ ∀ B W0, B ≤ g → Below B W0 w → Below B W0 w' := by
  obtain ⟨q, c, h0, h1, h2, h3, h4, h5, h6⟩ := h
  have hlt := blk_lt h0
  have k0 : RB (w.setCell ⟨g, 1, none⟩ (.int .i32 1)) g 0 1 .nilIface (.slice (some ⟨q, 0, none⟩) 4 c) := blk_put h0 1 _ rfl
  have far : ∀ (j : Nat) (v : Value), w.cell? ⟨q, j, none⟩ = some v → (w.setCell ⟨g, 1, none⟩ (.int .i32 1)).cell? ⟨q, j, none⟩ = some v := fun j v hv => (World.cell?_setCell_other w ⟨g, 1, none⟩ ⟨q, j, none⟩ _ (fun e => h2 (by first | exact congrArg Addr.block e | exact (congrArg Addr.block e).symm))).trans hv
  refine replace_call g w _ (fun b w1 => RepB (w.setCell ⟨g, 1, none⟩ (.int .i32 1)) b w1 ∧ Below (w.setCell ⟨g, 1, none⟩ (.int .i32 1)).heap.size (w.setCell ⟨g, 1, none⟩ (.int .i32 1)) w1) s _ (fun w' => ∀ B W0, B ≤ g → Below B W0 w → Below B W0 w') h0 ?_ ?_
  · refine (build_call g q c _ k0 h1 (far 0 _ h3) (far 1 _ h4) (far 2 _ h5) (far 3 _ h6)).mono ?_
    rintro e w' ⟨b, rfl, hr, hR, hb⟩
    exact ⟨b, rfl, hr, hR, hb⟩
  · rintro b w1 ⟨⟨vt, p1, p2, d1, d2, hR⟩, hb⟩ hr
    have a3 := hR.setG (j := 3) k0 (.iface 137 (.pointer (some ⟨b, 0, none⟩)))
    have k3 := blk_put k0 3 (.iface 137 (.pointer (some ⟨b, 0, none⟩))) rfl
    have a4 := (a3.setG (j := 4) k3 (.slice none 0 0)).below (Below.refl _ _).drew
    have k4 := blk_put k3 4 (.slice none 0 0) rfl
    have a5 := a4.setG (j := 0) k4 (.int .u32 1)
    have k5 := blk_put k4 0 (.int .u32 1) rfl
    have a6 := a5.setG (j := 1) k5 (.int .i32 0)
    refine (repl_call _ (done_ w1 g b) b ⟨vt, p1, p2, d1, d2, a6⟩ s hs).mono ?_
    rintro e w' ⟨rfl, hb2⟩
    refine ⟨rfl, fun B W0 hB h => ?_⟩
    have hs1 : w.heap.size ≤ w1.heap.size := by have := hb.size; rw [World.size_setCell] at this; exact this
    have e1 : Below B W0 w1 := (h.setCell (p := ⟨g, 1, none⟩) hB (.int .i32 1)).trans (hb.mono (by rw [World.size_setCell]; omega))
    have e2 : Below B W0 (done_ w1 g b) := (((e1.setCell (p := ⟨g, 3, none⟩) hB _).setCell (p := ⟨g, 4, none⟩) hB _).drew.setCell (p := ⟨g, 0, none⟩) hB _).setCell (p := ⟨g, 1, none⟩) hB _
    exact e2.trans (hb2.mono (by
      have : (done_ w1 g b).heap.size = w1.heap.size := by simp [done_, built]
      omega))
end Go.Proofs.YtlpoglkddknedaaGreatDoor.R

namespace Go.Proofs.YtlpoglkddknedaaGreatDoor.R
open Go.RowKit Go.Lib Go.Proofs.YtlpoglkddknedaaGreatDoor.T Go.Proofs.YtlpoglkddknedaaGreatDoor.H Go.Proofs.YtlpoglkddknedaaGreatDoorW.PrintWords Go.Proofs.YtlpoglkddknedaaGreatDoorW.PrintLast
set_option linter.unusedVariables false
set_option linter.unusedSimpArgs false
def strs4 : List ByteArray := [⟨#[92]⟩, ⟨#[92, 92]⟩, ⟨#[34]⟩, ⟨#[92, 34]⟩]
theorem NR.of {w : World} {g n c : Nat} {A : Option Addr} {base : Nat} {ok : Nat → Prop} (h : RB w g 0 0 .nilIface (.slice A n c)) (hr : Kd.R Kd.string 9 w base ok (.slice A n c) strs4) : NR w g := by
  obtain ⟨h1, h2, h3⟩ := Kd.R_reads' hr
  obtain rfl : n = 4 := h1
  obtain ⟨ad, rfl, hc⟩ := h3.2.2 (by decide)
  obtain ⟨q, rfl⟩ := Kd.R_head hr
  have cell : ∀ j (s : ByteArray), strs4[j]? = some s → w.cell? ⟨q, j, none⟩ = some (.string s) := by
    intro j s hs
    obtain ⟨cs, _, hK, hcell⟩ := hc j s hs
    obtain rfl : cs = [.string s] := hK
    have h1 := hcell 0 _ rfl
    rw [Addr.add_lit, show Kd.string.sz = 1 from rfl, Nat.mul_one, Nat.zero_add, Nat.add_zero] at h1
    exact h1
  refine ⟨q, c, h, h2, fun e => ?_, cell 0 _ rfl, cell 1 _ rfl, cell 2 _ rfl, cell 3 _ rfl⟩
  subst e
  have c0 := cell 0 _ rfl
  rw [blk_cell h 0] at c0
  injection c0 with c0
  injection c0
set_option maxRecDepth 100000 in
set_option maxHeartbeats 4000000 in
theorem newrep_call (W : World) (A : Option Addr) (c : Nat) (hC : Kd.C Kd.string W A 4 strs4) : Calls Tryz.prog 28 #[.slice A 4 c] W fun e w' => ∃ g, e = .returned (.pointer (some ⟨g, 0, none⟩)) ∧ W.heap.size ≤ g ∧ NR w' g ∧ Below W.heap.size W w' := by
  have HC := Aside0.mk hC
  clear hC
  go_enter Tryz.func28, Tryz.ntmps28
  go_wp2_with (first
    | (at_builtin
       refine Kd.R_append_rows Kd.string (w0 := W) W.heap.size rfl (.const (.slice none 0 0)) (.tmp 8) 38 9 (.string ⟨#[]⟩) 16 rfl Tryz.underlying38 info9 rfl (by decide) (by decide) (.slice none 0 0) [] strs4 A 4 c (fun _ => True) (fun _ => False) (by rfl) (by rfl) ?aO ?aR (fun _ _ h => h) (fun _ h => h.elim) ?aF ?aB ?aS ?aL ?_
       case aO => exact Kd.R_nil _ _ _ _ _
       case aR => exact HC.out
       case aF => exact fun _ _ => trivial
       case aB => exact Below.refl _ _
       case aS => exact Nat.le_refl _
       case aL => decide
       intro v1 w1 ho hb1 hg1 hat1
       obtain ⟨A1, c1, e1⟩ := Kd.R_slice ho
       subst e1
       have HO := Aside0.mk ho
       have HB := Aside0.mk hb1
       clear ho hb1 hg1 hat1))
  go_ret
  exact ⟨w1.heap.size, rfl, HB.out.size, NR.of (blk_new w1 _) (Kd.R_alloc HO.out _), HB.out.alloc HB.out.size _⟩
end Go.Proofs.YtlpoglkddknedaaGreatDoor.R

/- token.All and the law's own seq: what they return is an iterator that gives the tokens of the string. Condition: scanN answers. -/
import Derived.Maps.OwnIn
import Derived.Test.YtlpoglkddknedaaGreatDoorHi
namespace Go.Proofs.YtlpoglkddknedaaGreatDoor.H
open Go.RowKit Go.Shelf Go.Proofs.YtlpoglkddknedaaGreatDoor.T Go.Proofs.YtlpoglkddknedaaGreatDoorW.PrintWords Go.Proofs.YtlpoglkddknedaaGreatDoorW.PrintLast
attribute [local go_sem] Oper.semAt_some
set_option linter.unusedVariables false
set_option linter.unusedSimpArgs false

theorem roundIn_any {m m' : Nat} {P : Program} {l : Nat} {f : FuncId} {tmps : Array Value} {assign body : Code} {w : World} {R : Ending → World → Prop}
    (h : RoundIn Fence.wide m P l f tmps assign body w R) : RoundIn Fence.wide m' P l f tmps assign body w R := ⟨h.1, fun c cs _ => h.2 c cs (room_wide _)⟩
theorem yieldAt_any {m : Nat} (m' : Nat) {P : Program} {l : Nat} {args : Array Value} {W : World} {R : Ending → World → Prop} (h : YieldAt Fence.wide m P l args W R) : YieldAt Fence.wide m' P l args W R := by
  obtain ⟨fn, tmps, assign, body, hy, hR⟩ := h
  exact ⟨fn, tmps, assign, body, hy, roundIn_any hR⟩
theorem yieldAt_mono {m : Nat} {P : Program} {l : Nat} {args : Array Value} {W : World} {R R' : Ending → World → Prop} (h : YieldAt Fence.wide m P l args W R) (hr : ∀ e w', R e w' → R' e w') : YieldAt Fence.wide m P l args W R' := by
  obtain ⟨fn, tmps, assign, body, hy, hR⟩ := h
  exact ⟨fn, tmps, assign, body, hy, hR.mono hr⟩
theorem grown_none {w w' : World} (h : Below w.heap.size w w') : w.grownBy w' none := ⟨h.os, h.tape, h.output, h.size, fun k hk _ => h.block k hk⟩

set_option maxHeartbeats 1000000 in
theorem all1_stops (s : ByteArray) (hs : s.size ≤ 140737488351232) (n b n₀ : Nat) (toks : List S31) (R : Int) (hsc : ∃ k, scanN k s 0 = some (toks, R)) (w : World) (hb : w.heap[b]? = some (.cells #[.string s] 9 (0, 0))) :
    SeqStopsK Fence.wide n Tryz.prog 54 #[.pointer (some ⟨b, 0, none⟩)] (fun x => #[encT x]) (Below n₀) (fun xs => xs = toks) (fun pre => pre <+: toks) toks.length w := by
  intro l J Jx W hW hJ hJx hY h0
  have hbW := (blk_cell ((hW.block b (blk_lt hb)).trans hb) 0).trans (show #[Value.string s][0]? = some (.string s) from rfl)
  have HY := Lib.hid hY
  have HJ := Lib.hid hJ
  have HSC := Lib.hid hsc
  have H0 := Lib.hid h0
  clear hY hJ hsc h0 hJx hW
  simp only [List.append_toArray, List.cons_append, List.nil_append]
  refine callsIn_of_wp Tryz.func54 rfl trivial ?_ rfl
  simp only [Tryz.ntmps54, List.size_toArray, List.length_cons, List.length_nil, Nat.reduceAdd, Nat.reduceSub, Array.replicate_succ, Array.replicate_zero, List.push_toArray, List.append_toArray, List.nil_append, List.cons_append]
  gi_wp2_with fail
  refine ⟨trivial, (fun h => (by cases h)), ?_⟩
  refine (callsIn_wide.2 (callsIn_wide.1 (scan_in s hs 0 l toks R HSC.out J Jx (fun pre W1 W' h hb => HJ.out pre W1 W' none h (grown_none hb) (fun r e => by cases e))
    (fun pre x W1 h hlt => yieldAt_any 0 (yieldAt_mono (HY.out pre x W1 h hlt) (fun e w' h => by rcases h with ⟨he, hj, _⟩ | ⟨he, hj⟩; exact .inl ⟨he, hj⟩; exact .inr ⟨he, hj⟩))) W H0.out))).mono ?_
  rintro e W1 ⟨⟨v, rfl⟩, hend⟩
  gi_wp2
  go_end0
  refine ⟨⟨_, rfl⟩, ?_⟩
  rcases hend with h | ⟨pre, hp, hx⟩
  · exact .inl ⟨toks, rfl, h⟩
  · exact .inr ⟨pre, hp, hx⟩

set_option maxHeartbeats 1000000 in
theorem All_calls (s : ByteArray) (w : World) : Calls Tryz.prog 35 #[.string s] w fun e w' => e = .returned (.func (.func 54) #[] #[.pointer (some ⟨w.heap.size, 0, none⟩)]) ∧ w.alloc (.cells #[.string s] 9) = w' := by
  go_enter Tryz.func35, Tryz.ntmps35
  go_wp2
  go_ret
  exact ⟨rfl, rfl⟩

theorem neq_nilFunc (x : Value) (w : World) : (binOp BinOp.neq 58 (.func (.func 54) #[] #[x]) .nilFunc).run Tryz.prog w = .ok (.bool true) w := by kernel_rfl

set_option maxHeartbeats 1000000 in
theorem seq_calls (s : ByteArray) (w : World) : Calls Tryz.prog 19 #[.string s] w fun e w' => e = .returned (.func (.func 54) #[] #[.pointer (some ⟨w.heap.size, 0, none⟩)]) ∧ w.alloc (.cells #[.string s] 9) = w' := by
  have hne := neq_nilFunc
  go_enter Tryz.func19, Tryz.ntmps19
  go_wp2_with (go_at_call 35; refine (All_calls s w).mono ?_; rintro e w1 ⟨rfl, rfl⟩)
  go_ret
  exact ⟨rfl, rfl⟩

end Go.Proofs.YtlpoglkddknedaaGreatDoor.H

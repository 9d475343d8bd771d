/- token.scan as an iterator: over whatever a loop's round keeps. Condition: scanN answers. -/
import Derived.RangeFuncNested
import Derived.RangeFuncBound
import Derived.RangeFuncCalls
import Derived.RangeFuncLeaves
import Derived.Shelf.Abstract
import Derived.Shelf.RegionOpen
import Derived.WalkKit
import Derived.OwnWalkIn
import Derived.TacticsInMore
import Derived.LoopNIn
import Derived.LoopIn
import Derived.Test.YtlpoglkddknedaaGreatDoorHc
namespace Go.Proofs.YtlpoglkddknedaaGreatDoor.H
open Go.RowKit Go.Shelf Go.Proofs.YtlpoglkddknedaaGreatDoor.T Go.Proofs.YtlpoglkddknedaaGreatDoorW.PrintWords Go.Proofs.YtlpoglkddknedaaGreatDoorW.PrintLast
attribute [local go_sem] Oper.semAt_some
set_option linter.unusedVariables false
set_option linter.unusedSimpArgs false

set_option maxHeartbeats 4000000 in
set_option maxRecDepth 100000 in
theorem scan_in (s : ByteArray) (hs : s.size ≤ 140737488351232) (n0 l0 : Nat) (toks : List S31) (R : Int) (hsc : ∃ k, scanN k s 0 = some (toks, R)) (J Jx : List S31 → World → Prop)
    (hJ : ∀ pre W W', J pre W → Below W.heap.size W W' → J pre W')
    (hY : ∀ pre x W1, J pre W1 → pre.length < toks.length → YieldAt Fence.wide n0 Tryz.prog l0 #[encT x] W1 fun e W' => (e = .returned (.bool true) ∧ J (pre ++ [x]) W') ∨ (e = .returned (.bool false) ∧ Jx (pre ++ [x]) W'))
    (W : World) (h0 : J [] W) :
    CallsIn Fence.wide (n0 + 1) Tryz.prog 17 #[.string s, .func (.yield l0) #[] #[]] W fun e W' => (∃ v, e = .returned v) ∧ (J toks W' ∨ ∃ pre, pre <+: toks ∧ Jx pre W') := by
  have HSC := Lib.hid hsc
  have HJJ := Lib.hid hJ
  have HY := Lib.hid hY
  have H00 := Lib.hid h0
  clear hsc hJ hY h0
  refine callsIn_of_wp Tryz.func17 rfl trivial ?_ rfl
  simp only [Tryz.ntmps17, List.size_toArray, List.length_cons, List.length_nil, Nat.reduceAdd, Nat.reduceSub, Array.replicate_succ, Array.replicate_zero, List.push_toArray, List.append_toArray, List.nil_append, List.cons_append]
  gi_wp2
  refine wpIn_scope_labels (scanJ s (.func (.yield l0) #[] #[]) toks R J) (fun l a' w' => scanM s l a' w') ?_ ?_ ?_
  · intro l a' w' h
    match l, h with
    | 0, _ => rfl
    | 1, _ => rfl
  · intro h0
    have H0 := Lib.hid h0
    clear h0
    gi_wp2
    refine wpIn_label ?_
    rename_i K hK
    refine hK _ _ ?_
    refine H0.out _ _ ⟨0, [], toks, undef, undef, undef, undef, undef, undef, undef, undef, undef, undef, undef, undef, undef, undef, undef, undef, undef, undef, undef, undef, undef, undef, undef, undef, undef, undef, undef, undef, undef, undef, undef, undef, undef, undef, undef, undef, undef, undef, undef, undef, undef, undef, undef, undef, undef, undef, undef, undef, undef, undef, undef, undef, undef, undef, undef, undef, undef, undef, undef, rfl, Int.le_refl _, by omega, H00.out, rfl, HSC.out⟩
  · intro l a' w' h
    match l, h with
    | 0, h' =>
      clear h
      obtain ⟨i, pre, rest, u6, u7, u8, u9, u10, u11, u12, u13, u14, u15, u16, u17, u18, u19, u20, u21, u22, u23, u24, u25, u26, u27, u28, u29, u30, u31, u32, u33, u34, u35, u36, u37, u38, u39, u40, u41, u42, u43, u44, u45, u46, u47, u48, u49, u50, u51, u52, u53, u54, u55, u56, u57, u58, u59, u60, u61, u62, u63, u64, rfl, hi0, hi1, hJ, hpr, k, hk⟩ := h'
      simp only [behind, findLabel, seqTail, beq_self_eq_true, ↓reduceIte, Option.getD_some, Nat.reduceBEq, Bool.false_eq_true]
      have HJ := Lib.hid hJ
      skip
      have HPR := Lib.hid hpr
      clear hJ hpr
      cases k with
      | zero => simp [scanN] at hk
      | succ k =>
        rw [scanN] at hk
        obtain ⟨n, hn, hk'⟩ := Option.bind_eq_some_iff.1 hk
        clear hk
        split at hk'
        · rename_i hb
          obtain ⟨hb0, hb1⟩ := hb
          obtain ⟨p, hp⟩ : ∃ p, i + n = p := ⟨_, rfl⟩
          rw [hp] at hk' hb1
          have hp0 : 0 ≤ p := by omega
          have HN := Lib.hid hn
          clear hn
          by_cases hend : p = s.size
          · have e1 : (p == (s.size : Int)) = true := beq_iff_eq.2 hend
            rw [if_pos hend] at hk'
            obtain ⟨rfl, rfl⟩ := Prod.mk.inj (Option.some.inj hk')
            clear hend hk'
            gi_wp2_with (refine ⟨trivial, ?_⟩; gi_at_call 25; refine (callsIn_wide.2 (token_run.calls _ _ n w' HN.out)).mono ?_; rintro e w1 ⟨rfl, hb1'⟩; have HB1 := Lib.hid hb1'; clear hb1')
            simp only [jumps]
            go_ret
            have hpr := HPR.out
            rw [List.append_nil] at hpr
            subst hpr
            exact ⟨⟨_, rfl⟩, .inl (HJJ.out _ _ _ HJ.out HB1.out)⟩
          · have e1 : (p == (s.size : Int)) = false := beq_eq_false_iff_ne.2 hend
            rw [if_neg hend] at hk'
            have hx := bt_at s p
            have p6 := eq_true hp0
            have hlt : p < s.size := by omega
            have q6 := eq_true hlt
            clear hend
            by_cases hq : bt s p = 37
            · have e2 : (bt s p == 37) = true := beq_iff_eq.2 hq
              by_cases hz : p = 0
              · have e3 : (p == 0) = true := beq_iff_eq.2 hz
                rw [if_pos ⟨hq, .inl hz⟩] at hk'
                have HL := Lib.hid (show lineN k s p = some (rest, R) from hk')
                clear hk' hq hz
                gi_wp2_with (refine ⟨trivial, ?_⟩; gi_at_call 25; refine (callsIn_wide.2 (token_run.calls _ _ n w' HN.out)).mono ?_; rintro e w1 ⟨rfl, hb1'⟩; have HB1 := Lib.hid hb1'; clear hb1')
                refine wpIn_goto ?_
                exact ⟨⟨p, pre, rest, _, _, _, _, _, _, _, _, _, _, _, _, _, _, _, _, _, _, _, _, _, _, _, _, _, _, _, _, _, _, _, _, _, _, _, _, _, _, _, _, _, _, _, _, _, _, _, _, _, _, _, _, _, _, _, _, _, _, _, rfl, hp0, hlt, HJJ.out _ _ _ HJ.out HB1.out, HPR.out, k, HL.out⟩, by simp [scanM, Go.RowKit.intOf]; omega⟩
              · have e3 : (p == 0) = false := beq_eq_false_iff_ne.2 hz
                have hm0 : 0 ≤ p - 1 := by omega
                have hx' := bt_pred s p hm0
                have p7 := eq_true hm0
                have hm1 : p - 1 < s.size := by omega
                have q7 := eq_true hm1
                by_cases hn : bt s (p - 1) = 10
                · have e4 : (bt s (p - 1) == 10) = true := beq_iff_eq.2 hn
                  rw [if_pos ⟨hq, .inr hn⟩] at hk'
                  have HL := Lib.hid (show lineN k s p = some (rest, R) from hk')
                  clear hk' hq hz hn
                  gi_wp2_with (refine ⟨trivial, ?_⟩; gi_at_call 25; refine (callsIn_wide.2 (token_run.calls _ _ n w' HN.out)).mono ?_; rintro e w1 ⟨rfl, hb1'⟩; have HB1 := Lib.hid hb1'; clear hb1')
                  refine wpIn_goto ?_
                  exact ⟨⟨p, pre, rest, _, _, _, _, _, _, _, _, _, _, _, _, _, _, _, _, _, _, _, _, _, _, _, _, _, _, _, _, _, _, _, _, _, _, _, _, _, _, _, _, _, _, _, _, _, _, _, _, _, _, _, _, _, _, _, _, _, _, _, rfl, hp0, hlt, HJJ.out _ _ _ HJ.out HB1.out, HPR.out, k, HL.out⟩, by simp [scanM, Go.RowKit.intOf]; omega⟩
                · have e4 : (bt s (p - 1) == 10) = false := beq_eq_false_iff_ne.2 hn
                  rw [if_neg (by rintro ⟨_, h | h⟩ <;> contradiction)] at hk'
                  have HK := Lib.hid hk'
                  clear hk' hq hz hn
                  obtain ⟨t, ht, hk⟩ := Option.bind_eq_some_iff.1 HK.out
                  obtain ⟨t1, t2, t3⟩ := t
                  have HT := Lib.hid ht
                  clear ht HK
                  dsimp only at hk
                  by_cases hpos : 0 < t3
                  · rw [if_pos hpos] at hk
                    by_cases hle : p + t3 ≤ s.size
                    · rw [if_pos hle] at hk
                      obtain ⟨x, hx1, hx2⟩ := Option.map_eq_some_iff.1 hk
                      obtain ⟨x1, x2⟩ := x
                      simp only [Prod.mk.injEq] at hx2
                      obtain ⟨hx2, rfl⟩ := hx2
                      have HN2 := Lib.hid hx1
                      have HX2 := Lib.hid hx2
                      clear hx1 hx2 hk
                      have HLN := Lib.hid (show pre.length < toks.length by
                        have h1 := congrArg List.length HPR.out
                        rw [← HX2.out, List.length_append, List.length_cons] at h1
                        omega)
                      gi_wp2_with (first
                        | (refine ⟨trivial, ?_⟩; gi_at_call 25; refine (callsIn_wide.2 (token_run.calls _ _ n w' HN.out)).mono ?_; rintro e w1 ⟨rfl, hb1'⟩; have HB1 := Lib.hid hb1'; clear hb1')
                        | (refine ⟨trivial, ?_⟩; gi_at_call 33; refine (callsIn_wide.2 (token_one.calls _ t1 t2 t3 w1 HT.out)).mono ?_; rintro e w2 ⟨rfl, hb2'⟩; have HB2 := Lib.hid hb2'; clear hb2'; have hy := HY.out pre ⟨t1, t2, p⟩ w2 (HJJ.out _ _ _ (HJJ.out _ _ _ HJ.out HB1.out) HB2.out) HLN.out; obtain ⟨fn, tmps, assign, body, hyy, hR⟩ := hy; have HRR := Lib.hid hR; clear hR; simp only [encT] at hyy))
                      refine HRR.out.mono ?_
                      rintro e w3 (⟨rfl, hj3⟩ | ⟨rfl, hj3⟩)
                      · have HJ3 := Lib.hid hj3
                        clear hj3 hyy
                        gi_wp2
                        refine wpIn_goto ?_
                        exact ⟨⟨p + t3, pre ++ [⟨t1, t2, p⟩], x1, _, _, _, _, _, _, _, _, _, _, _, _, _, _, _, _, _, _, _, _, _, _, _, _, _, _, _, _, _, _, _, _, _, _, _, _, _, _, _, _, _, _, _, _, _, _, _, _, _, _, _, _, _, _, _, _, _, _, _, rfl, by omega, hle, HJ3.out, by rw [← HPR.out, ← HX2.out]; simp, _, HN2.out⟩, by simp [scanM, Go.RowKit.intOf]; omega⟩
                      · have HJ3 := Lib.hid hj3
                        clear hj3 hyy
                        gi_wp2
                        simp only [jumps]
                        go_ret
                        exact ⟨⟨_, rfl⟩, .inr ⟨pre ++ [⟨t1, t2, p⟩], ⟨x1, by rw [← HPR.out, ← HX2.out]; simp⟩, HJ3.out⟩⟩
                    · rw [if_neg hle] at hk; cases hk
                  · rw [if_neg hpos] at hk
                    obtain ⟨rfl, rfl⟩ := Prod.mk.inj (Option.some.inj hk)
                    have hpos' : t3 ≤ 0 := by omega
                    gi_wp2_with (first
                      | (refine ⟨trivial, ?_⟩; gi_at_call 25; refine (callsIn_wide.2 (token_run.calls _ _ n w' HN.out)).mono ?_; rintro e w1 ⟨rfl, hb1'⟩; have HB1 := Lib.hid hb1'; clear hb1')
                      | (refine ⟨trivial, ?_⟩; gi_at_call 33; refine (callsIn_wide.2 (token_one.calls _ t1 t2 t3 w1 HT.out)).mono ?_; rintro e w2 ⟨rfl, hb2'⟩; have HB2 := Lib.hid hb2'; clear hb2'))
                    simp only [jumps]
                    go_ret
                    have hpr := HPR.out
                    rw [List.append_nil] at hpr
                    subst hpr
                    exact ⟨⟨_, rfl⟩, .inl (HJJ.out _ _ _ (HJJ.out _ _ _ HJ.out HB1.out) HB2.out)⟩
            · have e2 : (bt s p == 37) = false := beq_eq_false_iff_ne.2 hq
              rw [if_neg (fun h => hq h.1)] at hk'
              have HK := Lib.hid hk'
              clear hk' hq
              obtain ⟨t, ht, hk⟩ := Option.bind_eq_some_iff.1 HK.out
              obtain ⟨t1, t2, t3⟩ := t
              have HT := Lib.hid ht
              clear ht HK
              dsimp only at hk
              by_cases hpos : 0 < t3
              · rw [if_pos hpos] at hk
                by_cases hle : p + t3 ≤ s.size
                · rw [if_pos hle] at hk
                  obtain ⟨x, hx1, hx2⟩ := Option.map_eq_some_iff.1 hk
                  obtain ⟨x1, x2⟩ := x
                  simp only [Prod.mk.injEq] at hx2
                  obtain ⟨hx2, rfl⟩ := hx2
                  have HN2 := Lib.hid hx1
                  have HX2 := Lib.hid hx2
                  clear hx1 hx2 hk
                  have HLN := Lib.hid (show pre.length < toks.length by
                    have h1 := congrArg List.length HPR.out
                    rw [← HX2.out, List.length_append, List.length_cons] at h1
                    omega)
                  gi_wp2_with (first
                    | (refine ⟨trivial, ?_⟩; gi_at_call 25; refine (callsIn_wide.2 (token_run.calls _ _ n w' HN.out)).mono ?_; rintro e w1 ⟨rfl, hb1'⟩; have HB1 := Lib.hid hb1'; clear hb1')
                    | (refine ⟨trivial, ?_⟩; gi_at_call 33; refine (callsIn_wide.2 (token_one.calls _ t1 t2 t3 w1 HT.out)).mono ?_; rintro e w2 ⟨rfl, hb2'⟩; have HB2 := Lib.hid hb2'; clear hb2'; have hy := HY.out pre ⟨t1, t2, p⟩ w2 (HJJ.out _ _ _ (HJJ.out _ _ _ HJ.out HB1.out) HB2.out) HLN.out; obtain ⟨fn, tmps, assign, body, hyy, hR⟩ := hy; have HRR := Lib.hid hR; clear hR; simp only [encT] at hyy))
                  refine HRR.out.mono ?_
                  rintro e w3 (⟨rfl, hj3⟩ | ⟨rfl, hj3⟩)
                  · have HJ3 := Lib.hid hj3
                    clear hj3 hyy
                    gi_wp2
                    refine wpIn_goto ?_
                    exact ⟨⟨p + t3, pre ++ [⟨t1, t2, p⟩], x1, _, _, _, _, _, _, _, _, _, _, _, _, _, _, _, _, _, _, _, _, _, _, _, _, _, _, _, _, _, _, _, _, _, _, _, _, _, _, _, _, _, _, _, _, _, _, _, _, _, _, _, _, _, _, _, _, _, _, _, rfl, by omega, hle, HJ3.out, by rw [← HPR.out, ← HX2.out]; simp, _, HN2.out⟩, by simp [scanM, Go.RowKit.intOf]; omega⟩
                  · have HJ3 := Lib.hid hj3
                    clear hj3 hyy
                    gi_wp2
                    simp only [jumps]
                    go_ret
                    exact ⟨⟨_, rfl⟩, .inr ⟨pre ++ [⟨t1, t2, p⟩], ⟨x1, by rw [← HPR.out, ← HX2.out]; simp⟩, HJ3.out⟩⟩
                · rw [if_neg hle] at hk; cases hk
              · rw [if_neg hpos] at hk
                obtain ⟨rfl, rfl⟩ := Prod.mk.inj (Option.some.inj hk)
                have hpos' : t3 ≤ 0 := by omega
                gi_wp2_with (first
                  | (refine ⟨trivial, ?_⟩; gi_at_call 25; refine (callsIn_wide.2 (token_run.calls _ _ n w' HN.out)).mono ?_; rintro e w1 ⟨rfl, hb1'⟩; have HB1 := Lib.hid hb1'; clear hb1')
                  | (refine ⟨trivial, ?_⟩; gi_at_call 33; refine (callsIn_wide.2 (token_one.calls _ t1 t2 t3 w1 HT.out)).mono ?_; rintro e w2 ⟨rfl, hb2'⟩; have HB2 := Lib.hid hb2'; clear hb2'))
                simp only [jumps]
                go_ret
                have hpr := HPR.out
                rw [List.append_nil] at hpr
                subst hpr
                exact ⟨⟨_, rfl⟩, .inl (HJJ.out _ _ _ (HJJ.out _ _ _ HJ.out HB1.out) HB2.out)⟩
        · cases hk'
    | 1, h' =>
      clear h
      obtain ⟨p, pre, rest, u6, u7, u8, u9, u10, u11, u12, u13, u14, u15, u16, u17, u18, u19, u20, u21, u22, u23, u24, u25, u26, u27, u28, u29, u30, u31, u32, u33, u34, u35, u36, u37, u38, u39, u40, u41, u42, u43, u44, u45, u46, u47, u48, u49, u50, u51, u52, u53, u54, u55, u56, u57, u58, u59, u60, u61, u62, u63, u64, rfl, hp0, hlt, hJ, hpr, k, hk⟩ := h'
      simp only [behind, findLabel, seqTail, beq_self_eq_true, ↓reduceIte, Option.getD_some, Nat.reduceBEq, Bool.false_eq_true]
      have HJ := Lib.hid hJ
      skip
      have HPR := Lib.hid hpr
      clear hJ hpr
      unfold lineN at hk
      obtain ⟨m, hm, hk'⟩ := Option.bind_eq_some_iff.1 hk
      clear hk
      have HM := Lib.hid hm
      clear hm
      by_cases h0 : 0 ≤ m
      · rw [if_pos h0] at hk'
        split at hk'
        · rename_i hb
          obtain ⟨hm1, hm2⟩ := hb
          have HN2 := Lib.hid hk'
          clear hk'
          gi_wp2_with (refine ⟨trivial, ?_⟩; gi_at_call 34; refine (callsIn_wide.2 (strings_IndexByte.calls _ _ m w' HM.out)).mono ?_; rintro e w1 ⟨rfl, hd⟩; obtain ⟨nd, rfl⟩ := hd)
          refine wpIn_goto ?_
          exact ⟨⟨p + m, pre, rest, _, _, _, _, _, _, _, _, _, _, _, _, _, _, _, _, _, _, _, _, _, _, _, _, _, _, _, _, _, _, _, _, _, _, _, _, _, _, _, _, _, _, _, _, _, _, _, _, _, _, _, _, _, _, _, _, _, _, _, rfl, by omega, hm2, HJJ.out _ _ _ HJ.out (bdrew (Below.refl _ _) nd), HPR.out, k, HN2.out⟩, by simp [scanM, Go.RowKit.intOf]; omega⟩
        · cases hk'
      · rw [if_neg h0] at hk'
        obtain ⟨rfl, rfl⟩ := Prod.mk.inj (Option.some.inj hk')
        have h0' : m < 0 := by omega
        clear hk' h0
        gi_wp2_with (refine ⟨trivial, ?_⟩; gi_at_call 34; refine (callsIn_wide.2 (strings_IndexByte.calls _ _ m w' HM.out)).mono ?_; rintro e w1 ⟨rfl, hd⟩; obtain ⟨nd, rfl⟩ := hd)
        simp only [jumps]
        go_ret
        have hpr := HPR.out
        rw [List.append_nil] at hpr
        subst hpr
        exact ⟨⟨_, rfl⟩, .inl (HJJ.out _ _ _ HJ.out (bdrew (Below.refl _ _) nd))⟩
end Go.Proofs.YtlpoglkddknedaaGreatDoor.H

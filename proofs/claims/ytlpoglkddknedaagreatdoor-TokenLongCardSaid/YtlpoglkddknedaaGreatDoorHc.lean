/- token.Scan: the tokens of a string, and where it is wrong, as the plain function scanF tells them. Condition: scanF answers. -/
import Derived.Test.YtlpoglkddknedaaGreatDoorTx8
import Derived.Test.YtlpoglkddknedaaGreatDoorHx
import Derived.WalkMore
import Derived.Lib.Hide
namespace Go.Proofs.YtlpoglkddknedaaGreatDoor.H
open Go.RowKit Go.Proofs.YtlpoglkddknedaaGreatDoor.T Go.Proofs.YtlpoglkddknedaaGreatDoorW.PrintWords Go.Proofs.YtlpoglkddknedaaGreatDoorW.PrintLast
set_option linter.unusedVariables false
set_option linter.unusedSimpArgs false

theorem info31 : (Tryz.prog.info? 31).map (fun i => (i.zero, i.size, i.bytes)) = some (some (.agg #[(.int .i64 0), (.string ⟨#[]⟩), (.int .i64 0)]), 3, 32) := by kernel_rfl

/-- A variable in a block of its own that holds a slice of tokens which the call has made. -/
def TokBox (W : World) (B b : Nat) (toks : List S31) : Prop :=
  B ≤ b ∧ ∃ v, W.heap[b]? = some (.cells #[v] 23 (0, 0)) ∧ Kd.R k31 31 W B (fun k => k ≠ b) v toks

theorem TokBox.below {W W' : World} {B b : Nat} {toks : List S31} (h : TokBox W B b toks) (hb : Below W.heap.size W W') : TokBox W' B b toks := by
  obtain ⟨hB, v, hv, hR⟩ := h
  exact ⟨hB, v, blk_below hv hb, Kd.R_below hR hb⟩

def encT (x : S31) : Value := .agg #[.int .i64 x.f0, .string x.f1, .int .i64 x.f2]

set_option maxHeartbeats 1000000 in
theorem clo_any (W : World) (B b : Nat) (toks : List S31) (x : S31) (hbox : TokBox W B b toks) (hlen : (toks.length + 1) * 32 ≤ 140737488355328) (hBW : B ≤ W.heap.size) :
    Calls Tryz.prog 18 #[encT x, .pointer (some ⟨b, 0, none⟩)] W fun e W' => e = .returned (.bool true) ∧ TokBox W' B b (toks ++ [x]) ∧ Below B W W' := by
  obtain ⟨hB, v, hv, hR⟩ := hbox
  have hlt := blk_lt hv
  have hc : W.cell? ⟨b, 0, none⟩ = some v := (blk_cell hv 0).trans rfl
  have hf := blk_frozen hv 0
  have HV := Lib.hid hv
  have HR := Lib.hid hR
  have HLEN := Lib.hid hlen
  have HBW := Lib.hid hBW
  have HB := Lib.hid hB
  clear hv hR hlen hBW hB
  unfold encT
  go_enter Tryz.func18, Tryz.ntmps18
  go_wp2_with (first
    | (at_builtin
       refine Kd.R_append k31 (w0 := W) B rfl (.tmp 4) (.tmp 6) 23 31 (.agg #[(.int .i64 0), (.string ⟨#[]⟩), (.int .i64 0)]) 32 rfl Tryz.underlying23 info31 rfl (by decide) (by omega) v toks x [.int .i64 x.f0, .string x.f1, .int .i64 x.f2] (fun k => k ≠ b) (fun _ => False) rfl (by first | (go_simp; done) | (go_simp; rfl)) (k31_mkM _ _ _ x) (fun _ hk => hk.elim) ?aF ?aO ?aB ?aS HLEN.out ?_
       case aF => exact fun k hk => by simp at hk; omega
       case aO => exact Kd.R_below HR.out ((Below.refl _ _).alloc (Nat.le_refl _) _)
       case aB => exact (Below.refl _ _).alloc HBW.out _
       case aS => simp; have := HBW.out; omega
       intro v1 w1 ho hb hg hat
       have hbx := Lib.hid (blk_grown (blk_alloc HV.out _) hg (Kd.R_away HR.out (fun _ hk => hk)))
       obtain ⟨A1, c1, rfl⟩ := Kd.R_slice ho
       have hc1 : w1.cell? ⟨b, 0, none⟩ = some v := (blk_cell hbx.out 0).trans rfl
       have hf1 := blk_frozen hbx.out 0
       have HO := Lib.hid ho
       have HB1 := Lib.hid hb
       clear ho hb hg hat hc hf))
  go_ret
  have HO2 : Kd.R k31 31 w1 B (fun k => k ≠ b) (.slice A1 (toks.length + 1) c1) (toks ++ [x]) := by
    have h := HO.out
    rw [List.length_append] at h
    exact h
  refine ⟨rfl, ⟨HB.out, .slice A1 (toks.length + 1) c1, blk_put hbx.out 0 _ rfl, Kd.R_far (p := ⟨b, 0, none⟩) HO2 (fun _ hk => hk) _⟩, HB1.out.setCell (p := ⟨b, 0, none⟩) HB.out _⟩
/-- The tokens from place i on, and where the string is wrong (-1: it is not). -/
def scanN : Nat → ByteArray → Int → Option (List S31 × Int)
  | 0, _, _ => none
  | k + 1, s, i => (token_run.f (s.extract i.toNat s.size) (⟨#[32, 9, 13, 10]⟩ : ByteArray)).bind fun n =>
      if 0 ≤ n ∧ i + n ≤ s.size then
        if i + n = s.size then some ([], -1)
        else if bt s (i + n) = 37 ∧ (i + n = 0 ∨ bt s (i + n - 1) = 10) then
          (strings_IndexByte.f (s.extract (i + n).toNat s.size) 10).bind fun m => if 0 ≤ m then (if 1 ≤ m ∧ i + n + m ≤ s.size then scanN k s (i + n + m) else none) else some ([], -1)
        else (token_one.f (s.extract (i + n).toNat s.size)).bind fun t => if 0 < t.2.2 then (if i + n + t.2.2 ≤ s.size then (scanN k s (i + n + t.2.2)).map fun x => (⟨t.1, t.2.1, i + n⟩ :: x.1, x.2) else none) else some ([], i + n)
      else none
def scanF (s : ByteArray) : Option (List S31 × Int × Int) :=
  if s.size ≤ 140737488351232 then (scanN (s.size + 2) s 0).bind fun x => if x.1.length * 32 ≤ 140737488355328 then (if 0 ≤ x.2 then some ([], x.2, 8) else some (x.1, 0, 0)) else none else none

/-- What stands behind the begin of a line that is passed over. -/
def lineN (k : Nat) (s : ByteArray) (p : Int) : Option (List S31 × Int) :=
  (strings_IndexByte.f (s.extract p.toNat s.size) 10).bind fun m => if 0 ≤ m then (if 1 ≤ m ∧ p + m ≤ s.size then scanN k s (p + m) else none) else some ([], -1)

def scanJ (s : ByteArray) (y : Value) (toks : List S31) (R : Int) (J : List S31 → World → Prop) (l : Nat) (a' : Act) (w' : World) : Prop := match l with
  | 0 => ∃ (i : Int) (pre rest : List S31) (u6 u7 u8 u9 u10 u11 u12 u13 u14 u15 u16 u17 u18 u19 u20 u21 u22 u23 u24 u25 u26 u27 u28 u29 u30 u31 u32 u33 u34 u35 u36 u37 u38 u39 u40 u41 u42 u43 u44 u45 u46 u47 u48 u49 u50 u51 u52 u53 u54 u55 u56 u57 u58 u59 u60 u61 u62 u63 u64 : Value), a' = { tmps := (.string s :: y :: undef :: undef :: .int .i64 0 :: .int .i64 i :: u6 :: u7 :: u8 :: u9 :: u10 :: u11 :: u12 :: u13 :: u14 :: u15 :: u16 :: u17 :: u18 :: u19 :: u20 :: u21 :: u22 :: u23 :: u24 :: u25 :: u26 :: u27 :: u28 :: u29 :: u30 :: u31 :: u32 :: u33 :: u34 :: u35 :: u36 :: u37 :: u38 :: u39 :: u40 :: u41 :: u42 :: u43 :: u44 :: u45 :: u46 :: u47 :: u48 :: u49 :: u50 :: u51 :: u52 :: u53 :: u54 :: u55 :: u56 :: u57 :: u58 :: u59 :: u60 :: u61 :: u62 :: u63 :: u64 :: []).toArray, defers := [] } ∧ 0 ≤ i ∧ i ≤ s.size ∧ J pre w' ∧ pre ++ rest = toks ∧ ∃ k, scanN k s i = some (rest, R)
  | 1 => ∃ (i : Int) (pre rest : List S31) (u6 u7 u8 u9 u10 u11 u12 u13 u14 u15 u16 u17 u18 u19 u20 u21 u22 u23 u24 u25 u26 u27 u28 u29 u30 u31 u32 u33 u34 u35 u36 u37 u38 u39 u40 u41 u42 u43 u44 u45 u46 u47 u48 u49 u50 u51 u52 u53 u54 u55 u56 u57 u58 u59 u60 u61 u62 u63 u64 : Value), a' = { tmps := (.string s :: y :: undef :: undef :: .int .i64 0 :: .int .i64 i :: u6 :: u7 :: u8 :: u9 :: u10 :: u11 :: u12 :: u13 :: u14 :: u15 :: u16 :: u17 :: u18 :: u19 :: u20 :: u21 :: u22 :: u23 :: u24 :: u25 :: u26 :: u27 :: u28 :: u29 :: u30 :: u31 :: u32 :: u33 :: u34 :: u35 :: u36 :: u37 :: u38 :: u39 :: u40 :: u41 :: u42 :: u43 :: u44 :: u45 :: u46 :: u47 :: u48 :: u49 :: u50 :: u51 :: u52 :: u53 :: u54 :: u55 :: u56 :: u57 :: u58 :: u59 :: u60 :: u61 :: u62 :: u63 :: u64 :: []).toArray, defers := [] } ∧ 0 ≤ i ∧ i < s.size ∧ J pre w' ∧ pre ++ rest = toks ∧ ∃ k, lineN k s i = some (rest, R)
  | _ => False
def scanM (s : ByteArray) (l : Nat) (a' : Act) (w' : World) : Nat := if l = 0 then 2 * (s.size - (Go.RowKit.intOf (a'.tmps.getD 5 undef)).toNat) + 1 else 2 * (s.size - (Go.RowKit.intOf (a'.tmps.getD 5 undef)).toNat)

theorem bdrew {B : Nat} {a w : World} (h : Below B a w) (n : Nat) : Below B a (w.drewN n) := ⟨h.os, h.tape, h.output, h.size, h.block⟩

theorem bt_pred (s : ByteArray) (p : Int) (h0 : 0 ≤ p - 1) : ∀ (h : p.toNat - 1 < s.size), ((s[p.toNat - 1]'h).toNat : Int) = bt s (p - 1) := by
  intro h
  have h2 : (p - 1).toNat = p.toNat - 1 := by omega
  have h3 := bt_at s (p - 1) (by omega)
  simp only [h2] at h3
  exact h3

set_option maxHeartbeats 2000000 in
set_option maxRecDepth 100000 in
theorem scan_clo (s : ByteArray) (hs : s.size ≤ 140737488351232) (B b : Nat) (toks : List S31) (R : Int) (hsc : ∃ k, scanN k s 0 = some (toks, R)) (hlen : toks.length * 32 ≤ 140737488355328) (W : World) (hbox : TokBox W B b []) (hBW : B ≤ W.heap.size) :
    Calls Tryz.prog 17 #[.string s, .func (.func 18) #[] #[.pointer (some ⟨b, 0, none⟩)]] W fun e W' => e = .returned (.int .i64 R) ∧ TokBox W' B b toks ∧ Below B W W' := by
  have HSC := Lib.hid hsc
  have HBX := Lib.hid hbox
  clear hsc hbox
  go_enter Tryz.func17, Tryz.ntmps17
  go_wp2
  refine wp_scope_labels (scanJ s (.func (.func 18) #[] #[.pointer (some ⟨b, 0, none⟩)]) toks R (fun pre w' => TokBox w' B b pre ∧ Below B W w')) (fun l a' w' => scanM s l a' w') ?_ ?_ ?_
  · intro l a' w' h
    match l, h with
    | 0, _ => rfl
    | 1, _ => rfl
  · intro h0
    have H0 := Lib.hid h0
    clear h0
    go_wp2
    refine wp_label ?_
    rename_i K hK
    refine hK _ _ ?_
    refine H0.out _ _ ⟨0, [], toks, undef, undef, undef, undef, undef, undef, undef, undef, undef, undef, undef, undef, undef, undef, undef, undef, undef, undef, undef, undef, undef, undef, undef, undef, undef, undef, undef, undef, undef, undef, undef, undef, undef, undef, undef, undef, undef, undef, undef, undef, undef, undef, undef, undef, undef, undef, undef, undef, undef, undef, undef, undef, undef, undef, undef, undef, undef, undef, undef, rfl, Int.le_refl _, by omega, ⟨HBX.out, Below.refl _ _⟩, rfl, HSC.out⟩
  · intro l a' w' h
    match l, h with
    | 0, h' =>
      clear h
      obtain ⟨i, pre, rest, u6, u7, u8, u9, u10, u11, u12, u13, u14, u15, u16, u17, u18, u19, u20, u21, u22, u23, u24, u25, u26, u27, u28, u29, u30, u31, u32, u33, u34, u35, u36, u37, u38, u39, u40, u41, u42, u43, u44, u45, u46, u47, u48, u49, u50, u51, u52, u53, u54, u55, u56, u57, u58, u59, u60, u61, u62, u63, u64, rfl, hi0, hi1, ⟨hJ, hB⟩, hpr, k, hk⟩ := h'
      simp only [behind, findLabel, seqTail, beq_self_eq_true, ↓reduceIte, Option.getD_some, Nat.reduceBEq, Bool.false_eq_true]
      have HJ := Lib.hid hJ
      have HB := Lib.hid hB
      have HPR := Lib.hid hpr
      clear hJ hB hpr
      cases k with
      | zero => simp [scanN] at hk
      | succ k =>
        rw [scanN] at hk
        obtain ⟨n, hn, hk'⟩ := Option.bind_eq_some_iff.1 hk
        clear hk
        split at hk'
        · rename_i hb
          obtain ⟨hb0, hb1⟩ := hb
          obtain ⟨p, hp⟩ : ∃ p, i + n = p := ⟨_, rfl⟩
          rw [hp] at hk' hb1
          have hp0 : 0 ≤ p := by omega
          have HN := Lib.hid hn
          clear hn
          by_cases hend : p = s.size
          · have e1 : (p == (s.size : Int)) = true := beq_iff_eq.2 hend
            rw [if_pos hend] at hk'
            obtain ⟨rfl, rfl⟩ := Prod.mk.inj (Option.some.inj hk')
            clear hend hk'
            go_wp2_with (go_at_call 25; refine (token_run.calls _ _ n w' HN.out).mono ?_; rintro e w1 ⟨rfl, hb1'⟩; have HB1 := Lib.hid hb1'; clear hb1')
            simp only [jumps]
            go_ret
            have hpr := HPR.out
            rw [List.append_nil] at hpr
            subst hpr
            exact ⟨rfl, HJ.out.below HB1.out, HB.out.trans (HB1.out.mono (Nat.le_trans hBW HB.out.size))⟩
          · have e1 : (p == (s.size : Int)) = false := beq_eq_false_iff_ne.2 hend
            rw [if_neg hend] at hk'
            have hx := bt_at s p
            have p6 := eq_true hp0
            have hlt : p < s.size := by omega
            have q6 := eq_true hlt
            clear hend
            by_cases hq : bt s p = 37
            · have e2 : (bt s p == 37) = true := beq_iff_eq.2 hq
              by_cases hz : p = 0
              · have e3 : (p == 0) = true := beq_iff_eq.2 hz
                rw [if_pos ⟨hq, .inl hz⟩] at hk'
                have HL := Lib.hid (show lineN k s p = some (rest, R) from hk')
                clear hk' hq hz
                go_wp2_with (go_at_call 25; refine (token_run.calls _ _ n w' HN.out).mono ?_; rintro e w1 ⟨rfl, hb1'⟩; have HB1 := Lib.hid hb1'; clear hb1')
                go_step3
                exact ⟨⟨p, pre, rest, _, _, _, _, _, _, _, _, _, _, _, _, _, _, _, _, _, _, _, _, _, _, _, _, _, _, _, _, _, _, _, _, _, _, _, _, _, _, _, _, _, _, _, _, _, _, _, _, _, _, _, _, _, _, _, _, _, _, _, rfl, hp0, hlt, ⟨HJ.out.below HB1.out, HB.out.trans (HB1.out.mono (Nat.le_trans hBW HB.out.size))⟩, HPR.out, k, HL.out⟩, by simp [scanM, Go.RowKit.intOf]; omega⟩
              · have e3 : (p == 0) = false := beq_eq_false_iff_ne.2 hz
                have hm0 : 0 ≤ p - 1 := by omega
                have hx' := bt_pred s p hm0
                have p7 := eq_true hm0
                have hm1 : p - 1 < s.size := by omega
                have q7 := eq_true hm1
                by_cases hn : bt s (p - 1) = 10
                · have e4 : (bt s (p - 1) == 10) = true := beq_iff_eq.2 hn
                  rw [if_pos ⟨hq, .inr hn⟩] at hk'
                  have HL := Lib.hid (show lineN k s p = some (rest, R) from hk')
                  clear hk' hq hz hn
                  go_wp2_with (go_at_call 25; refine (token_run.calls _ _ n w' HN.out).mono ?_; rintro e w1 ⟨rfl, hb1'⟩; have HB1 := Lib.hid hb1'; clear hb1')
                  go_step3
                  exact ⟨⟨p, pre, rest, _, _, _, _, _, _, _, _, _, _, _, _, _, _, _, _, _, _, _, _, _, _, _, _, _, _, _, _, _, _, _, _, _, _, _, _, _, _, _, _, _, _, _, _, _, _, _, _, _, _, _, _, _, _, _, _, _, _, _, rfl, hp0, hlt, ⟨HJ.out.below HB1.out, HB.out.trans (HB1.out.mono (Nat.le_trans hBW HB.out.size))⟩, HPR.out, k, HL.out⟩, by simp [scanM, Go.RowKit.intOf]; omega⟩
                · have e4 : (bt s (p - 1) == 10) = false := beq_eq_false_iff_ne.2 hn
                  rw [if_neg (by rintro ⟨_, h | h⟩ <;> contradiction)] at hk'
                  have HK := Lib.hid hk'
                  clear hk' hq hz hn
                  obtain ⟨t, ht, hk⟩ := Option.bind_eq_some_iff.1 HK.out
                  obtain ⟨t1, t2, t3⟩ := t
                  have HT := Lib.hid ht
                  clear ht HK
                  dsimp only at hk
                  by_cases hpos : 0 < t3
                  · rw [if_pos hpos] at hk
                    by_cases hle : p + t3 ≤ s.size
                    · rw [if_pos hle] at hk
                      obtain ⟨x, hx1, hx2⟩ := Option.map_eq_some_iff.1 hk
                      obtain ⟨x1, x2⟩ := x
                      simp only [Prod.mk.injEq] at hx2
                      obtain ⟨hx2, rfl⟩ := hx2
                      have HN2 := Lib.hid hx1
                      have HX2 := Lib.hid hx2
                      clear hx1 hx2 hk
                      have HLN := Lib.hid (show (pre.length + 1) * 32 ≤ 140737488355328 by
                        have h1 := congrArg List.length HPR.out
                        rw [← HX2.out, List.length_append, List.length_cons] at h1
                        omega)
                      go_wp2_with (first
                        | (go_at_call 25; refine (token_run.calls _ _ n w' HN.out).mono ?_; rintro e w1 ⟨rfl, hb1'⟩; have HB1 := Lib.hid hb1'; clear hb1')
                        | (go_at_call 33; refine (token_one.calls _ t1 t2 t3 w1 HT.out).mono ?_; rintro e w2 ⟨rfl, hb2'⟩; have HB2 := Lib.hid hb2'; clear hb2')
                        | (go_at_call 18; refine (clo_any w2 B b pre ⟨t1, t2, p⟩ ((HJ.out.below HB1.out).below HB2.out) HLN.out (Nat.le_trans hBW (Nat.le_trans HB.out.size (Nat.le_trans HB1.out.size HB2.out.size)))).mono ?_; rintro e w3 ⟨rfl, hj3, hb3'⟩; have HJ3 := Lib.hid hj3; have HB3 := Lib.hid hb3'; clear hj3 hb3'))
                      go_step3
                      exact ⟨⟨p + t3, pre ++ [⟨t1, t2, p⟩], x1, _, _, _, _, _, _, _, _, _, _, _, _, _, _, _, _, _, _, _, _, _, _, _, _, _, _, _, _, _, _, _, _, _, _, _, _, _, _, _, _, _, _, _, _, _, _, _, _, _, _, _, _, _, _, _, _, _, _, _, rfl, by omega, hle, ⟨HJ3.out, ((HB.out.trans (HB1.out.mono (Nat.le_trans hBW HB.out.size))).trans (HB2.out.mono (Nat.le_trans hBW (Nat.le_trans HB.out.size HB1.out.size)))).trans HB3.out⟩, by rw [← HPR.out, ← HX2.out]; simp, _, HN2.out⟩, by simp [scanM, Go.RowKit.intOf]; omega⟩
                    · rw [if_neg hle] at hk; cases hk
                  · rw [if_neg hpos] at hk
                    obtain ⟨rfl, rfl⟩ := Prod.mk.inj (Option.some.inj hk)
                    have hpos' : t3 ≤ 0 := by omega
                    go_wp2_with (first
                      | (go_at_call 25; refine (token_run.calls _ _ n w' HN.out).mono ?_; rintro e w1 ⟨rfl, hb1'⟩; have HB1 := Lib.hid hb1'; clear hb1')
                      | (go_at_call 33; refine (token_one.calls _ t1 t2 t3 w1 HT.out).mono ?_; rintro e w2 ⟨rfl, hb2'⟩; have HB2 := Lib.hid hb2'; clear hb2'))
                    simp only [jumps]
                    go_ret
                    have hpr := HPR.out
                    rw [List.append_nil] at hpr
                    subst hpr
                    exact ⟨rfl, (HJ.out.below HB1.out).below HB2.out, (HB.out.trans (HB1.out.mono (Nat.le_trans hBW HB.out.size))).trans (HB2.out.mono (Nat.le_trans hBW (Nat.le_trans HB.out.size HB1.out.size)))⟩
            · have e2 : (bt s p == 37) = false := beq_eq_false_iff_ne.2 hq
              rw [if_neg (fun h => hq h.1)] at hk'
              have HK := Lib.hid hk'
              clear hk' hq
              obtain ⟨t, ht, hk⟩ := Option.bind_eq_some_iff.1 HK.out
              obtain ⟨t1, t2, t3⟩ := t
              have HT := Lib.hid ht
              clear ht HK
              dsimp only at hk
              by_cases hpos : 0 < t3
              · rw [if_pos hpos] at hk
                by_cases hle : p + t3 ≤ s.size
                · rw [if_pos hle] at hk
                  obtain ⟨x, hx1, hx2⟩ := Option.map_eq_some_iff.1 hk
                  obtain ⟨x1, x2⟩ := x
                  simp only [Prod.mk.injEq] at hx2
                  obtain ⟨hx2, rfl⟩ := hx2
                  have HN2 := Lib.hid hx1
                  have HX2 := Lib.hid hx2
                  clear hx1 hx2 hk
                  have HLN := Lib.hid (show (pre.length + 1) * 32 ≤ 140737488355328 by
                    have h1 := congrArg List.length HPR.out
                    rw [← HX2.out, List.length_append, List.length_cons] at h1
                    omega)
                  go_wp2_with (first
                    | (go_at_call 25; refine (token_run.calls _ _ n w' HN.out).mono ?_; rintro e w1 ⟨rfl, hb1'⟩; have HB1 := Lib.hid hb1'; clear hb1')
                    | (go_at_call 33; refine (token_one.calls _ t1 t2 t3 w1 HT.out).mono ?_; rintro e w2 ⟨rfl, hb2'⟩; have HB2 := Lib.hid hb2'; clear hb2')
                    | (go_at_call 18; refine (clo_any w2 B b pre ⟨t1, t2, p⟩ ((HJ.out.below HB1.out).below HB2.out) HLN.out (Nat.le_trans hBW (Nat.le_trans HB.out.size (Nat.le_trans HB1.out.size HB2.out.size)))).mono ?_; rintro e w3 ⟨rfl, hj3, hb3'⟩; have HJ3 := Lib.hid hj3; have HB3 := Lib.hid hb3'; clear hj3 hb3'))
                  go_step3
                  exact ⟨⟨p + t3, pre ++ [⟨t1, t2, p⟩], x1, _, _, _, _, _, _, _, _, _, _, _, _, _, _, _, _, _, _, _, _, _, _, _, _, _, _, _, _, _, _, _, _, _, _, _, _, _, _, _, _, _, _, _, _, _, _, _, _, _, _, _, _, _, _, _, _, _, _, _, rfl, by omega, hle, ⟨HJ3.out, ((HB.out.trans (HB1.out.mono (Nat.le_trans hBW HB.out.size))).trans (HB2.out.mono (Nat.le_trans hBW (Nat.le_trans HB.out.size HB1.out.size)))).trans HB3.out⟩, by rw [← HPR.out, ← HX2.out]; simp, _, HN2.out⟩, by simp [scanM, Go.RowKit.intOf]; omega⟩
                · rw [if_neg hle] at hk; cases hk
              · rw [if_neg hpos] at hk
                obtain ⟨rfl, rfl⟩ := Prod.mk.inj (Option.some.inj hk)
                have hpos' : t3 ≤ 0 := by omega
                go_wp2_with (first
                  | (go_at_call 25; refine (token_run.calls _ _ n w' HN.out).mono ?_; rintro e w1 ⟨rfl, hb1'⟩; have HB1 := Lib.hid hb1'; clear hb1')
                  | (go_at_call 33; refine (token_one.calls _ t1 t2 t3 w1 HT.out).mono ?_; rintro e w2 ⟨rfl, hb2'⟩; have HB2 := Lib.hid hb2'; clear hb2'))
                simp only [jumps]
                go_ret
                have hpr := HPR.out
                rw [List.append_nil] at hpr
                subst hpr
                exact ⟨rfl, (HJ.out.below HB1.out).below HB2.out, (HB.out.trans (HB1.out.mono (Nat.le_trans hBW HB.out.size))).trans (HB2.out.mono (Nat.le_trans hBW (Nat.le_trans HB.out.size HB1.out.size)))⟩
        · cases hk'
    | 1, h' =>
      clear h
      obtain ⟨p, pre, rest, u6, u7, u8, u9, u10, u11, u12, u13, u14, u15, u16, u17, u18, u19, u20, u21, u22, u23, u24, u25, u26, u27, u28, u29, u30, u31, u32, u33, u34, u35, u36, u37, u38, u39, u40, u41, u42, u43, u44, u45, u46, u47, u48, u49, u50, u51, u52, u53, u54, u55, u56, u57, u58, u59, u60, u61, u62, u63, u64, rfl, hp0, hlt, ⟨hJ, hB⟩, hpr, k, hk⟩ := h'
      simp only [behind, findLabel, seqTail, beq_self_eq_true, ↓reduceIte, Option.getD_some, Nat.reduceBEq, Bool.false_eq_true]
      have HJ := Lib.hid hJ
      have HB := Lib.hid hB
      have HPR := Lib.hid hpr
      clear hJ hB hpr
      unfold lineN at hk
      obtain ⟨m, hm, hk'⟩ := Option.bind_eq_some_iff.1 hk
      clear hk
      have HM := Lib.hid hm
      clear hm
      by_cases h0 : 0 ≤ m
      · rw [if_pos h0] at hk'
        split at hk'
        · rename_i hb
          obtain ⟨hm1, hm2⟩ := hb
          have HN2 := Lib.hid hk'
          clear hk'
          go_wp2_with (go_at_call 34; refine (strings_IndexByte.calls _ _ m w' HM.out).mono ?_; rintro e w1 ⟨rfl, hd⟩; obtain ⟨nd, rfl⟩ := hd)
          go_step3
          exact ⟨⟨p + m, pre, rest, _, _, _, _, _, _, _, _, _, _, _, _, _, _, _, _, _, _, _, _, _, _, _, _, _, _, _, _, _, _, _, _, _, _, _, _, _, _, _, _, _, _, _, _, _, _, _, _, _, _, _, _, _, _, _, _, _, _, _, rfl, by omega, hm2, ⟨HJ.out.below (bdrew (Below.refl _ _) nd), bdrew HB.out nd⟩, HPR.out, k, HN2.out⟩, by simp [scanM, Go.RowKit.intOf]; omega⟩
        · cases hk'
      · rw [if_neg h0] at hk'
        obtain ⟨rfl, rfl⟩ := Prod.mk.inj (Option.some.inj hk')
        have h0' : m < 0 := by omega
        clear hk' h0
        go_wp2_with (go_at_call 34; refine (strings_IndexByte.calls _ _ m w' HM.out).mono ?_; rintro e w1 ⟨rfl, hd⟩; obtain ⟨nd, rfl⟩ := hd)
        simp only [jumps]
        go_ret
        have hpr := HPR.out
        rw [List.append_nil] at hpr
        subst hpr
        exact ⟨rfl, HJ.out.below (bdrew (Below.refl _ _) nd), bdrew HB.out nd⟩
end Go.Proofs.YtlpoglkddknedaaGreatDoor.H

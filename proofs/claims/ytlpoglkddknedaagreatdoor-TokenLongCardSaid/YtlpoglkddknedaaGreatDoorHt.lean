/- token.text: the text of the string token at the begin of s and its extent, as the plain function textL tells it. Condition: s has at most 2^47 - 4096 bytes. -/
import Derived.Test.YtlpoglkddknedaaGreatDoorHa
import Derived.Test.YtlpoglkddknedaaGreatDoorHx
import Derived.WalkMore
namespace Go.Proofs.YtlpoglkddknedaaGreatDoor.H
open Go.RowKit Go.Lib
set_option linter.unusedVariables false
set_option linter.unusedSimpArgs false

/-- The bytes behind place i; what has been read. -/
def textL : List UInt8 → Nat → List UInt8 → ByteArray × Int
  | [], _, _ => (⟨#[]⟩, 0)
  | c :: r, i, acc =>
    if c.toNat < 32 ∨ 126 < c.toNat then (⟨#[]⟩, 0)
    else if c.toNat = 34 then (if 255 < acc.length then (⟨#[]⟩, 0) else (⟨acc.toArray⟩, (i : Int) + 2))
    else if c.toNat = 92 then
      match r with
      | [] => (⟨#[]⟩, 0)
      | d :: r' => if d.toNat = 34 ∨ d.toNat = 92 then textL r' (i + 2) (acc ++ [d]) else (⟨#[]⟩, 0)
    else textL r (i + 1) (acc ++ [c])
theorem textL_cons (c : UInt8) (r : List UInt8) (i : Nat) (acc : List UInt8) : textL (c :: r) i acc =
    if c.toNat < 32 ∨ 126 < c.toNat then (⟨#[]⟩, 0)
    else if c.toNat = 34 then (if 255 < acc.length then (⟨#[]⟩, 0) else (⟨acc.toArray⟩, (i : Int) + 2))
    else if c.toNat = 92 then
      match r with
      | [] => (⟨#[]⟩, 0)
      | d :: r' => if d.toNat = 34 ∨ d.toNat = 92 then textL r' (i + 2) (acc ++ [d]) else (⟨#[]⟩, 0)
    else textL r (i + 1) (acc ++ [c]) := by rw [textL.eq_def]
def textF (s : ByteArray) : ByteArray × Int := textL (s.data.toList.drop 1) 0 []

theorem drop_cons (s : ByteArray) (i : Nat) (h : i < s.size) : s.data.toList.drop i = s[i] :: s.data.toList.drop (i + 1) := by
  rw [List.drop_eq_getElem_cons (by simpa using h)]
  rfl
theorem drop_end (s : ByteArray) (i : Nat) (h : s.size ≤ i) : s.data.toList.drop i = [] := List.drop_eq_nil_of_le (by simpa using h)
theorem byteCells_snoc (l : List UInt8) (b : UInt8) : byteCells l ++ [.int .u8 b.toNat] = byteCells (l ++ [b]) := by simp [byteCells]

def textJ (s : ByteArray) (w : World) (l : Nat) (a' : Act) (w' : World) : Prop := match l with
  | 0 => ∃ (i : Nat) (acc : List UInt8) (u6 u7 u8 u9 u10 u11 u12 u13 u14 u15 u16 u17 u18 u19 u20 u21 u22 u23 u24 u25 u26 u27 u28 u29 u30 u31 u32 u33 u34 u35 u36 u37 u38 u39 u40 u41 u42 u43 u44 u45 u46 u47 u48 u49 u50 u51 u52 u53 u54 u55 u56 u57 : Value), a' = { tmps := (.string s :: undef :: .string ⟨#[]⟩ :: .int .i64 0 :: .pointer (some ⟨w.heap.size, 0, none⟩) :: .int .i64 i :: u6 :: u7 :: u8 :: u9 :: u10 :: u11 :: u12 :: u13 :: u14 :: u15 :: u16 :: u17 :: u18 :: u19 :: u20 :: u21 :: u22 :: u23 :: u24 :: u25 :: u26 :: u27 :: u28 :: u29 :: u30 :: u31 :: u32 :: u33 :: u34 :: u35 :: u36 :: u37 :: u38 :: u39 :: u40 :: u41 :: u42 :: u43 :: u44 :: u45 :: u46 :: u47 :: u48 :: u49 :: u50 :: u51 :: u52 :: u53 :: u54 :: u55 :: u56 :: u57 :: []).toArray, defers := [] } ∧
      i ≤ s.size ∧ acc.length ≤ i ∧ IsBuilder 44 5 w.heap.size w.heap.size (byteCells acc) w' ∧ Below w.heap.size w w' ∧ textL (s.data.toList.drop (i + 1)) i acc = textF s
  | 1 => ∃ (i : Nat) (acc : List UInt8) (u6 u7 u8 u9 u10 u11 u12 u13 u14 u15 u16 u17 u18 u19 u20 u21 u22 u23 u24 u25 u26 u27 u28 u29 u30 u31 u32 u33 u34 u35 u36 u37 u38 u39 u40 u41 u42 u43 u44 u45 u46 u47 u48 u49 u50 u51 u52 u53 u54 u55 u56 u57 : Value), a' = { tmps := (.string s :: undef :: .string ⟨#[]⟩ :: .int .i64 0 :: .pointer (some ⟨w.heap.size, 0, none⟩) :: .int .i64 i :: u6 :: u7 :: u8 :: u9 :: u10 :: u11 :: u12 :: u13 :: u14 :: u15 :: u16 :: u17 :: u18 :: u19 :: u20 :: u21 :: u22 :: u23 :: u24 :: u25 :: u26 :: u27 :: u28 :: u29 :: u30 :: u31 :: u32 :: u33 :: u34 :: u35 :: u36 :: u37 :: u38 :: u39 :: u40 :: u41 :: u42 :: u43 :: u44 :: u45 :: u46 :: u47 :: u48 :: u49 :: u50 :: u51 :: u52 :: u53 :: u54 :: u55 :: u56 :: u57 :: []).toArray, defers := [] } ∧
      i < s.size ∧ acc.length ≤ i ∧ IsBuilder 44 5 w.heap.size w.heap.size (byteCells acc) w' ∧ Below w.heap.size w w' ∧ (if 255 < acc.length then (⟨#[]⟩, 0) else (⟨acc.toArray⟩, (i : Int) + 1)) = textF s
  | _ => False
def textM (s : ByteArray) (l : Nat) (a' : Act) (w' : World) : Nat := if l = 0 then s.size + 2 - (Go.RowKit.intOf (a'.tmps.getD 5 undef)).toNat else 0

set_option maxHeartbeats 1000000 in
set_option maxRecDepth 100000 in
theorem text_any (s : ByteArray) (hs : s.size ≤ 140737488351232) (w : World) :
    Calls Tryz.prog 51 #[.string s] w fun e w' => e = .returned (.tuple #[.string (textF s).1, .int .i64 (textF s).2]) ∧ Below w.heap.size w w' := by
  go_enter Tryz.func51, Tryz.ntmps51
  go_wp2
  refine wp_scope_labels (textJ s w) (fun l a' w' => textM s l a' w') ?_ ?_ ?_
  · intro l a' w' h
    match l, h with
    | 0, _ => rfl
    | 1, _ => rfl
  · intro h0
    have H0 := Lib.hid h0
    clear h0
    go_wp2
    refine wp_label ?_
    rename_i K hK
    refine hK _ _ ?_
    refine H0.out _ _ ⟨0, [], undef, undef, undef, undef, undef, undef, undef, undef, undef, undef, undef, undef, undef, undef, undef, undef, undef, undef, undef, undef, undef, undef, undef, undef, undef, undef, undef, undef, undef, undef, undef, undef, undef, undef, undef, undef, undef, undef, undef, undef, undef, undef, undef, undef, undef, undef, undef, undef, undef, undef, undef, undef, rfl, Nat.zero_le _, Nat.le_refl _, fresh_isBuilder 44 5 w, (Below.refl _ w).alloc (Nat.le_refl _) _, rfl⟩
  · intro l a' w' h
    match l, h with
    | 0, h' =>
      clear h
      obtain ⟨i, acc, u6, u7, u8, u9, u10, u11, u12, u13, u14, u15, u16, u17, u18, u19, u20, u21, u22, u23, u24, u25, u26, u27, u28, u29, u30, u31, u32, u33, u34, u35, u36, u37, u38, u39, u40, u41, u42, u43, u44, u45, u46, u47, u48, u49, u50, u51, u52, u53, u54, u55, u56, u57, rfl, hi, hacc, hb, hB, hR⟩ := h'
      simp only [behind, findLabel, seqTail, beq_self_eq_true, ↓reduceIte, Option.getD_some, Nat.reduceBEq, Bool.false_eq_true]
      have HR := Lib.hid hR
      clear hR
      by_cases h1 : i + 1 < s.size
      · have b1 : (i : Int) + 1 < s.size := by omega
        have HC := Lib.hid (drop_cons s (i + 1) h1)
        by_cases ha : s[i + 1].toNat < 32
        · have a1 : (s[i + 1].toNat : Int) < 32 := by omega
          have HE := Lib.hid (show textF s = (⟨#[]⟩, 0) by rw [← HR.out, HC.out]; rw [textL_cons, if_pos (.inl ha)])
          go_wp2
          simp only [jumps]
          go_ret2
          rw [HE.out]
          exact ⟨rfl, hB⟩
        · have a1 : 32 ≤ (s[i + 1].toNat : Int) := by omega
          by_cases hb1 : 126 < s[i + 1].toNat
          · have a2 : 126 < (s[i + 1].toNat : Int) := by omega
            have HE := Lib.hid (show textF s = (⟨#[]⟩, 0) by rw [← HR.out, HC.out]; rw [textL_cons, if_pos (.inr hb1)])
            go_wp2
            simp only [jumps]
            go_ret2
            rw [HE.out]
            exact ⟨rfl, hB⟩
          · have a2 : (s[i + 1].toNat : Int) ≤ 126 := by omega
            by_cases hq : s[i + 1].toNat = 34
            · have a3 : ((s[i + 1].toNat : Int) == 34) = true := by rw [hq]; rfl
              have HE := Lib.hid (show (if 255 < acc.length then (⟨#[]⟩, 0) else (⟨acc.toArray⟩, (i : Int) + 2)) = textF s by
                have hh := HR.out
                rw [HC.out, textL_cons, if_neg (by omega), if_pos hq] at hh
                exact hh)
              clear hq
              go_wp2
              go_step3
              exact ⟨⟨i + 1, acc, _, _, _, _, _, _, _, _, _, _, _, _, _, _, _, _, _, _, _, _, _, _, _, _, _, _, _, _, _, _, _, _, _, _, _, _, _, _, _, _, _, _, _, _, _, _, _, _, _, _, _, _, rfl, by omega, by omega, hb, hB, by rw [← HE.out]; simp [Int.add_assoc]⟩, by simp [textM, Go.RowKit.intOf]; omega⟩
            · have a3 : ((s[i + 1].toNat : Int) == 34) = false := by rw [beq_eq_false_iff_ne]; omega
              by_cases hw : s[i + 1].toNat = 92
              · have a4 : ((s[i + 1].toNat : Int) == 92) = true := by rw [hw]; rfl
                by_cases h2 : i + 1 + 1 < s.size
                · have b2 : (i : Int) + 1 + 1 < s.size := by omega
                  have HC2 := Lib.hid (drop_cons s (i + 1 + 1) h2)
                  by_cases hd : s[i + 1 + 1].toNat = 34 ∨ s[i + 1 + 1].toNat = 92
                  · have HN := Lib.hid (show textL (s.data.toList.drop (i + 1 + 1 + 1)) (i + 1 + 1) (acc ++ [s[i + 1 + 1]]) = textF s by
                      have hh := HR.out
                      rw [HC.out, textL_cons, if_neg (by omega), if_neg hq, if_pos hw, HC2.out] at hh
                      simp only [if_pos hd] at hh
                      exact hh)
                    clear hw hq
                    by_cases hd1 : s[i + 1 + 1].toNat = 34
                    · have d1 : ((s[i + 1 + 1].toNat : Int) != 34) = false := by rw [hd1]; rfl
                      clear hd1 hd
                      go_wp2_with fail
                      refine (Tryz.Builder_WriteByte w.heap.size w.heap.size (byteCells acc) _ w' hb (by rw [byteCells_length]; omega) hB.size).mono ?_
                      rintro e w1 ⟨rfl, hb1, hB1⟩
                      rw [byteCells_snoc] at hb1
                      go_wp2
                      go_step3
                      exact ⟨⟨i + 1 + 1, acc ++ [s[i + 1 + 1]], _, _, _, _, _, _, _, _, _, _, _, _, _, _, _, _, _, _, _, _, _, _, _, _, _, _, _, _, _, _, _, _, _, _, _, _, _, _, _, _, _, _, _, _, _, _, _, _, _, _, _, _, rfl, by omega, by rw [List.length_append]; simp; omega, .inr hb1, hB.trans hB1, HN.out⟩, by simp [textM, Go.RowKit.intOf]; omega⟩
                    · have d1 : ((s[i + 1 + 1].toNat : Int) != 34) = true := by rw [bne_iff_ne]; omega
                      have d2 : ((s[i + 1 + 1].toNat : Int) != 92) = false := by rw [show s[i + 1 + 1].toNat = 92 by omega]; rfl
                      clear hd1 hd
                      go_wp2_with fail
                      refine (Tryz.Builder_WriteByte w.heap.size w.heap.size (byteCells acc) _ w' hb (by rw [byteCells_length]; omega) hB.size).mono ?_
                      rintro e w1 ⟨rfl, hb1, hB1⟩
                      rw [byteCells_snoc] at hb1
                      go_wp2
                      go_step3
                      exact ⟨⟨i + 1 + 1, acc ++ [s[i + 1 + 1]], _, _, _, _, _, _, _, _, _, _, _, _, _, _, _, _, _, _, _, _, _, _, _, _, _, _, _, _, _, _, _, _, _, _, _, _, _, _, _, _, _, _, _, _, _, _, _, _, _, _, _, _, rfl, by omega, by rw [List.length_append]; simp; omega, .inr hb1, hB.trans hB1, HN.out⟩, by simp [textM, Go.RowKit.intOf]; omega⟩
                  · have HE := Lib.hid (show textF s = (⟨#[]⟩, 0) by
                      have hh := HR.out
                      rw [HC.out, textL_cons, if_neg (by omega), if_neg hq, if_pos hw, HC2.out] at hh
                      simp only [if_neg hd] at hh
                      exact hh.symm)
                    have d1 : ((s[i + 1 + 1].toNat : Int) != 34) = true := by rw [bne_iff_ne]; omega
                    have d2 : ((s[i + 1 + 1].toNat : Int) != 92) = true := by rw [bne_iff_ne]; omega
                    clear hw hq hd
                    go_wp2
                    simp only [jumps]
                    go_ret2
                    rw [HE.out]
                    exact ⟨rfl, hB⟩
                · have b2 : (s.size : Int) ≤ (i : Int) + 1 + 1 := by omega
                  have HE := Lib.hid (show textF s = (⟨#[]⟩, 0) by
                      have hh := HR.out
                      rw [HC.out, textL_cons, if_neg (by omega), if_neg hq, if_pos hw, drop_end s (i + 1 + 1) (by omega)] at hh
                      exact hh.symm)
                  clear hw hq
                  go_wp2
                  simp only [jumps]
                  go_ret2
                  rw [HE.out]
                  exact ⟨rfl, hB⟩
              · have a4 : ((s[i + 1].toNat : Int) == 92) = false := by rw [beq_eq_false_iff_ne]; omega
                have HN := Lib.hid (show textL (s.data.toList.drop (i + 1 + 1)) (i + 1) (acc ++ [s[i + 1]]) = textF s by
                  have hh := HR.out
                  rw [HC.out, textL_cons, if_neg (by omega), if_neg hq, if_neg hw] at hh
                  exact hh)
                clear hw hq
                go_wp2_with fail
                refine (Tryz.Builder_WriteByte w.heap.size w.heap.size (byteCells acc) _ w' hb (by rw [byteCells_length]; omega) hB.size).mono ?_
                rintro e w1 ⟨rfl, hb1, hB1⟩
                rw [byteCells_snoc] at hb1
                go_wp2
                go_step3
                exact ⟨⟨i + 1, acc ++ [s[i + 1]], _, _, _, _, _, _, _, _, _, _, _, _, _, _, _, _, _, _, _, _, _, _, _, _, _, _, _, _, _, _, _, _, _, _, _, _, _, _, _, _, _, _, _, _, _, _, _, _, _, _, _, _, rfl, by omega, by rw [List.length_append]; simp; omega, .inr hb1, hB.trans hB1, HN.out⟩, by simp [textM, Go.RowKit.intOf]; omega⟩
      · have b1 : (s.size : Int) ≤ (i : Int) + 1 := by omega
        have HE := Lib.hid (show textF s = (⟨#[]⟩, 0) by rw [← HR.out, drop_end s (i + 1) (by omega)]; rfl)
        go_wp2
        simp only [jumps]
        go_ret2
        rw [HE.out]
        exact ⟨rfl, hB⟩
    | 1, h' =>
      clear h
      obtain ⟨i, acc, u6, u7, u8, u9, u10, u11, u12, u13, u14, u15, u16, u17, u18, u19, u20, u21, u22, u23, u24, u25, u26, u27, u28, u29, u30, u31, u32, u33, u34, u35, u36, u37, u38, u39, u40, u41, u42, u43, u44, u45, u46, u47, u48, u49, u50, u51, u52, u53, u54, u55, u56, u57, rfl, hi, hacc, hb, hB, hR⟩ := h'
      have HR := Lib.hid hR
      clear hR
      simp only [behind, findLabel, seqTail, beq_self_eq_true, ↓reduceIte, Option.getD_some, Nat.reduceBEq, Bool.false_eq_true]
      by_cases hl : 255 < acc.length
      · have HE := Lib.hid (show textF s = (⟨#[]⟩, 0) by rw [← HR.out, if_pos hl])
        have l1 : (255 : Int) < ((byteCells acc).length : Int) := by rw [byteCells_length]; omega
        go_wp2_with (go_at_call 14; refine (Tryz.Builder_Len w.heap.size w.heap.size (byteCells acc) w' hb).mono ?_; rintro e w1 ⟨rfl, rfl⟩)
        simp only [jumps]
        go_ret2
        rw [HE.out]
        exact ⟨rfl, hB⟩
      · have HE := Lib.hid (show textF s = (⟨acc.toArray⟩, (i : Int) + 1) by rw [← HR.out, if_neg hl])
        have l1 : ((byteCells acc).length : Int) ≤ 255 := by rw [byteCells_length]; omega
        go_wp2_with (first | (go_at_call 14; refine (Tryz.Builder_Len w.heap.size w.heap.size (byteCells acc) w' hb).mono ?_; rintro e w1 ⟨rfl, rfl⟩) | (go_at_call 16; refine (Tryz.Builder_String_any w.heap.size w.heap.size acc _ hb hB.size).mono ?_; rintro e w2 ⟨rfl, hB2⟩))
        simp only [jumps]
        go_ret2
        rw [HE.out]
        exact ⟨rfl, hB.trans hB2⟩

end Go.Proofs.YtlpoglkddknedaaGreatDoor.H

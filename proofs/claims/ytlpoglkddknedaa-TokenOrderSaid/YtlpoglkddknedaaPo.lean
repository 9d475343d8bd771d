/- The order of the tokens of a string, and what stands where they stand. Conditions: at most 2^40 bytes. -/
import Derived.Test.YtlpoglkddknedaaPe
import Derived.Lib.IndexMore
namespace Go.Proofs.Ytlpoglkddknedaa.P
open Go.RowKit Go.Proofs.Ytlpoglkddknedaa.T Go.Proofs.Ytlpoglkddknedaa.H Go.Proofs.YtlpoglkddknedaaW.PrintWords Go.Proofs.YtlpoglkddknedaaW.PrintLast
set_option linter.unusedVariables false
set_option linter.unusedSimpArgs false

theorem contains_mid (l : List UInt8) (a b : Nat) : Lib.contains l ((l.drop a).take b) = true := by
  unfold Lib.contains
  refine decide_eq_true ?_
  by_cases ha : a ≤ l.length
  · rcases Lib.index_spec l ((l.drop a).take b) with ⟨h1, h2⟩ | ⟨i, h1, _⟩
    · have h3 := h2 a ha
      rw [show Lib.occAt l ((l.drop a).take b) a = true by
        unfold Lib.occAt
        rw [List.isPrefixOf_iff_prefix]
        exact List.take_prefix _ _] at h3
      cases h3
    · rw [h1]; omega
  · rw [List.drop_eq_nil_of_le (by omega), List.take_nil]
    rw [Lib.index_empty]
    exact Int.le_refl _

theorem textL_size : ∀ (n : Nat) (l : List UInt8) (i : Nat) (acc : List UInt8), l.length ≤ n → (textL l i acc).2 = 0 ∨ ((textL l i acc).1.size : Int) + i + 2 ≤ (textL l i acc).2 + acc.length := by
  intro n
  induction n using Nat.strongRecOn with
  | ind n ih =>
    intro l i acc hl
    match l, hl with
    | [], _ => exact .inl rfl
    | c :: r, hl =>
      rw [textL_cons]
      rw [List.length_cons] at hl
      by_cases hp : c.toNat < 32 ∨ 126 < c.toNat
      · rw [if_pos hp]; exact .inl rfl
      · rw [if_neg hp]
        by_cases h34 : c.toNat = 34
        · rw [if_pos h34]
          by_cases h255 : 255 < acc.length
          · rw [if_pos h255]; exact .inl rfl
          · rw [if_neg h255]; right
            show ((⟨acc.toArray⟩ : ByteArray).size : Int) + i + 2 ≤ (i : Int) + 2 + acc.length
            rw [show (⟨acc.toArray⟩ : ByteArray).size = acc.length by simp [ByteArray.size]]
            omega
        · rw [if_neg h34]
          by_cases h92 : c.toNat = 92
          · rw [if_pos h92]
            match r, hl with
            | [], _ => exact .inl rfl
            | d :: r', hl =>
              rw [List.length_cons] at hl
              dsimp only
              by_cases hd : d.toNat = 34 ∨ d.toNat = 92
              · rw [if_pos hd]
                rcases ih (n - 2) (by omega) r' (i + 2) (acc ++ [d]) (by omega) with h | h
                · exact .inl h
                · right; rw [List.length_append, List.length_cons, List.length_nil] at h; omega
              · rw [if_neg hd]; exact .inl rfl
          · rw [if_neg h92]
            rcases ih (n - 1) (by omega) r (i + 1) (acc ++ [c]) (by omega) with h | h
            · exact .inl h
            · right; rw [List.length_append, List.length_cons, List.length_nil] at h; omega

theorem size_mk (l : List UInt8) : (⟨l.toArray⟩ : ByteArray).size = l.length := by simp [ByteArray.size]

theorem tokS_good (c : UInt8) (q : List UInt8) (h : (tokS c q).2.2 ≠ 0) : 1 ≤ (tokS c q).1 ∧ (tokS c q).1 ≤ 11 ∧ ((tokS c q).2.1.size : Int) ≤ (tokS c q).2.2 ∧ ((tokS c q).1 = 1 ∨ Lib.contains (c :: q) (D (tokS c q).2.1) = true) := by
  have h6 := textL_size q.length q 0 [] (Nat.le_refl _)
  have hg := Lib.indexByte_ge (D SG) c
  have hh := idx_has (D SG) c
  have hi := idx_eq (D SG) c
  have h7 : (D SG).length = 6 := rfl
  unfold tokS at h ⊢
  split at h
  · rename_i hA
    rw [if_pos hA]
    split at h
    · rename_i h255
      rw [if_pos h255]
      refine ⟨by show (1 : Int) ≤ 2; decide, by show (2 : Int) ≤ 11; decide, ?_, .inr ?_⟩
      · show ((⟨((c :: q).take (spnL (inS SY) (c :: q))).toArray⟩ : ByteArray).size : Int) ≤ (spnL (inS SY) (c :: q) : Int)
        rw [size_mk, List.length_take]; omega
      · show Lib.contains (c :: q) (D ⟨((c :: q).take (spnL (inS SY) (c :: q))).toArray⟩) = true
        rw [D_mk]; exact contains_mid (c :: q) 0 _
    · exact absurd rfl h
  · rename_i hA
    rw [if_neg hA]
    split at h
    · rename_i hS
      rw [if_pos hS]
      rw [show (D SG).contains c = true from hS] at hh
      have hh' := of_decide_eq_true hh
      refine ⟨?_, ?_, by show ((1 : Nat) : Int) ≤ 1; decide, .inr ?_⟩
      · show 1 ≤ 3 + Lib.indexByte (D SG) c; omega
      · show 3 + Lib.indexByte (D SG) c ≤ 11
        rw [hi]; split <;> omega
      · exact contains_mid (c :: q) 0 1
    · rename_i hS
      rw [if_neg hS]
      split at h
      · rename_i hM
        rw [if_pos hM]
        refine ⟨by show (1 : Int) ≤ 11; decide, by show (11 : Int) ≤ 11; decide, ?_, .inr ?_⟩
        · show ((⟨((c :: q).take (min (spnL (inS MK) (c :: q)) 2)).toArray⟩ : ByteArray).size : Int) ≤ ((min (spnL (inS MK) (c :: q)) 2 : Nat) : Int)
          rw [size_mk, List.length_take]; omega
        · show Lib.contains (c :: q) (D ⟨((c :: q).take (min (spnL (inS MK) (c :: q)) 2)).toArray⟩) = true
          rw [D_mk]; exact contains_mid (c :: q) 0 _
      · rename_i hM
        rw [if_neg hM]
        split at h
        · rename_i h34
          rw [if_pos h34]
          refine ⟨by show (1 : Int) ≤ 1; decide, by show (1 : Int) ≤ 11; decide, ?_, .inl rfl⟩
          show ((textL q 0 []).1.size : Int) ≤ (textL q 0 []).2
          rcases h6 with h6 | h6
          · exact absurd h6 h
          · simp only [List.length_nil] at h6; omega
        · rename_i h34
          rw [if_neg h34]
          split at h
          · rename_i h36
            rw [if_pos h36]
            split at h
            · rename_i h13
              rw [if_pos h13]
              refine ⟨by show (1 : Int) ≤ 9; decide, by show (9 : Int) ≤ 11; decide, ?_, .inr ?_⟩
              · show ((⟨(q.take (spnL (inS DG) q)).toArray⟩ : ByteArray).size : Int) ≤ (spnL (inS DG) q : Int) + 1
                rw [size_mk, List.length_take]; omega
              · show Lib.contains (c :: q) (D ⟨(q.take (spnL (inS DG) q)).toArray⟩) = true
                rw [D_mk]; exact contains_mid (c :: q) 1 _
            · exact absurd rfl h
          · rename_i h36
            rw [if_neg h36]
            split at h
            · rename_i h123
              rw [if_pos h123]
              split at h
              · rename_i hlt
                rw [if_pos hlt]
                refine ⟨by show (1 : Int) ≤ 10; decide, by show (10 : Int) ≤ 11; decide, ?_, .inr ?_⟩
                · show ((⟨(q.take (spnL (· != 125) q)).toArray⟩ : ByteArray).size : Int) ≤ (spnL (· != 125) q : Int) + 2
                  rw [size_mk, List.length_take]; omega
                · show Lib.contains (c :: q) (D ⟨(q.take (spnL (· != 125) q)).toArray⟩) = true
                  rw [D_mk]; exact contains_mid (c :: q) 1 _
              · exact absurd rfl h
            · rename_i h123
              rw [if_neg h123]
              split at h
              · rename_i h59
                rw [if_pos h59]
                refine ⟨by show (1 : Int) ≤ 10; decide, by show (10 : Int) ≤ 11; decide, ?_, .inr ?_⟩
                · show ((⟨(q.take (spnL (· != 10) q)).toArray⟩ : ByteArray).size : Int) ≤ (spnL (· != 10) q : Int) + 1
                  rw [size_mk, List.length_take]; omega
                · show Lib.contains (c :: q) (D ⟨(q.take (spnL (· != 10) q)).toArray⟩) = true
                  rw [D_mk]; exact contains_mid (c :: q) 1 _
              · exact absurd rfl h

theorem scan_R (s : ByteArray) : ∀ (k : Nat) (i : Int) (toks : List S40) (R : Int), scanN k s i = some (toks, R) → R = -1 ∨ i ≤ R := by
  intro k
  induction k with
  | zero => intro i toks R h; simp [scanN] at h
  | succ k ih =>
    intro i toks R h
    rw [scanN] at h
    obtain ⟨n, _, h⟩ := Option.bind_eq_some_iff.1 h
    split at h
    · rename_i hb
      split at h
      · left; exact (Prod.mk.inj (Option.some.inj h)).2.symm
      · split at h
        · obtain ⟨m, _, h⟩ := Option.bind_eq_some_iff.1 h
          split at h
          · split at h
            · rename_i hm
              rcases ih _ _ _ h with e | e
              · exact .inl e
              · right; omega
            · cases h
          · left; exact (Prod.mk.inj (Option.some.inj h)).2.symm
        · obtain ⟨t, _, h⟩ := Option.bind_eq_some_iff.1 h
          split at h
          · split at h
            · obtain ⟨⟨r1, r2⟩, hr, he⟩ := Option.map_eq_some_iff.1 h
              obtain ⟨_, rfl⟩ := Prod.mk.inj he
              rcases ih _ _ _ hr with e | e
              · exact .inl e
              · right; dsimp only; omega
            · cases h
          · right
            have := (Prod.mk.inj (Option.some.inj h)).2
            omega
    · cases h

/-- What the law asks of the tokens from the extent lo on. -/
def good (s : ByteArray) (R : Int) : Int → List S40 → Prop
  | _, [] => True
  | lo, x :: r => 1 ≤ x.f0 ∧ x.f0 ≤ 11 ∧ lo ≤ x.f2 ∧ x.f2 + (max x.f1.size 1 : Nat) ≤ s.size ∧ (0 ≤ R → x.f2 < R) ∧ (x.f0 = 1 ∨ Lib.contains ((D s).drop x.f2.toNat) (D x.f1) = true) ∧ good s R (x.f2 + (max x.f1.size 1 : Nat)) r
theorem good_mono (s : ByteArray) (R : Int) {lo hi : Int} (h : lo ≤ hi) : ∀ l, good s R hi l → good s R lo l
  | [], _ => trivial
  | x :: r, ⟨h1, h2, h3, h4⟩ => ⟨h1, h2, by omega, h4⟩

theorem scan_good (s : ByteArray) (hs : s.size ≤ 1099511627776) : ∀ (k i : Nat) (toks : List S40) (R : Int), i ≤ s.size → scanN k s (i : Int) = some (toks, R) → good s R i toks := by
  intro k
  induction k with
  | zero => intro i toks R _ h; simp [scanN] at h
  | succ k ih =>
    intro i toks R hi h
    rcases scan_step s hs k i hi toks R h with h | ⟨j, hij, hj, h⟩ | ⟨p, hp, e, rest, hip, he0, he, hpe, ht, hr⟩
    · rw [h]; exact trivial
    · exact good_mono s R (by omega) _ (ih j toks R hj h)
    · rw [ht]
      have hg := tokS_good s[p] ((D s).drop (p + 1)) (by omega)
      have hd : (D s).drop p = s[p] :: (D s).drop (p + 1) := drop_cons s p hp
      have hR := scan_R s _ _ _ _ hr
      refine ⟨hg.1, hg.2.1, by show (i : Int) ≤ (p : Int); omega, by show (p : Int) + ((max (tokS s[p] ((D s).drop (p + 1))).2.1.size 1 : Nat) : Int) ≤ _; omega, ?_, ?_, ?_⟩
      · intro h0; show (p : Int) < R; omega
      · rcases hg.2.2.2 with h | h
        · exact .inl h
        · right
          show Lib.contains ((D s).drop (p : Int).toNat) _ = true
          rw [Int.toNat_natCast, hd]
          exact h
      · refine good_mono s R ?_ _ (ih (p + e) rest R (by omega) hr)
        show (p : Int) + ((max (tokS s[p] ((D s).drop (p + 1))).2.1.size 1 : Nat) : Int) ≤ _
        omega
end Go.Proofs.Ytlpoglkddknedaa.P

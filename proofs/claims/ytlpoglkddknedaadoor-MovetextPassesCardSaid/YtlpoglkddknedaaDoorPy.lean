/- The plain facts of MovetextLines: a text of lines of words, split and read back. No program in sight. -/
import Derived.Test.YtlpoglkddknedaaDoorHf
import Derived.Lib.SplitLaws
import Derived.Lib.Fields
namespace Go.Proofs.YtlpoglkddknedaaDoor.Y
open Go.Lib
set_option linter.unusedVariables false
set_option linter.unusedSimpArgs false
/-- Words with a byte between. -/
def joinC (c : UInt8) : List (List UInt8) → List UInt8
  | [] => []
  | [w] => w
  | w :: r => w ++ c :: joinC c r
theorem joinC_cons (c : UInt8) (w : List UInt8) {r : List (List UInt8)} (h : r ≠ []) : joinC c (w :: r) = w ++ c :: joinC c r := by
  cases r with
  | nil => exact absurd rfl h
  | cons _ _ => rfl
theorem joinC_snoc (c : UInt8) (w : List UInt8) : ∀ {r : List (List UInt8)}, r ≠ [] → joinC c (r ++ [w]) = joinC c r ++ c :: w
  | [], h => absurd rfl h
  | [x], _ => rfl
  | x :: y :: r, _ => by
    rw [List.cons_append, joinC_cons c x (by simp), joinC_cons c x (by simp), joinC_snoc c w (r := y :: r) (by simp)]
    simp
theorem index_at (c : UInt8) (r : List UInt8) : ∀ a : List UInt8, c ∉ a → index (a ++ c :: r) [c] = (a.length : Int)
  | [], _ => by simp [index]
  | x :: a, h => by
    have hx : c ≠ x := fun e => h (by simp [e])
    have ih := index_at c r a (fun e => h (by simp [e]))
    rw [List.cons_append, index, ih]
    have h1 : ([c] : List UInt8).isPrefixOf (x :: (a ++ c :: r)) = false := by simp [List.isPrefixOf, hx]
    have h2 : (((a.length : Nat) : Int) == -1) = false := beq_eq_false_iff_ne.2 (by omega)
    rw [h1, h2]
    simp
theorem index_no (c : UInt8) : ∀ a : List UInt8, c ∉ a → index a [c] = -1
  | [], _ => by simp [index]
  | x :: a, h => by
    have hx : c ≠ x := fun e => h (by simp [e])
    have ih := index_no c a (fun e => h (by simp [e]))
    rw [index, ih]
    have h1 : ([c] : List UInt8).isPrefixOf (x :: a) = false := by simp [List.isPrefixOf, hx]
    rw [h1]
    simp
/-- The number of separators between pieces without one, and the pieces again. -/
theorem split_join (c : UInt8) : ∀ ps : List (List UInt8), ps ≠ [] → (∀ p ∈ ps, c ∉ p) → count (joinC c ps) [c] + 1 = ps.length ∧ splitK [c] 0 (count (joinC c ps) [c]) (joinC c ps) = ps
  | [], h, _ => absurd rfl h
  | [p], _, hp => by
    have h : c ∉ p := hp p (by simp)
    have e := index_no c p h
    have e0 := count_miss e
    rw [joinC, e0]
    exact ⟨rfl, by simp [splitK]⟩
  | p :: q :: r, _, hp => by
    have h : c ∉ p := hp p (by simp)
    obtain ⟨ih1, ih2⟩ := split_join c (q :: r) (by simp) (fun x hx => hp x (by simp [hx]))
    have e := index_at c (joinC c (q :: r)) p h
    have hd : (p ++ c :: joinC c (q :: r)).drop (p.length + 1) = joinC c (q :: r) := by
      rw [← List.drop_drop, List.drop_left]; rfl
    have e1 : count (p ++ c :: joinC c (q :: r)) [c] = 1 + count (joinC c (q :: r)) [c] := by
      rw [count_hit (by simp) e]
      simp only [List.length_cons, List.length_nil, Nat.zero_add]
      rw [hd]
    rw [joinC_cons c p (by simp), e1]
    refine ⟨by rw [List.length_cons, ← ih1]; omega, ?_⟩
    have h2 : (((p.length : Nat) : Int) == -1) = false := beq_eq_false_iff_ne.2 (by omega)
    rw [show 1 + count (joinC c (q :: r)) [c] = count (joinC c (q :: r)) [c] + 1 by omega, splitK, e, h2]
    simp only [Bool.false_eq_true, if_false, Int.toNat_natCast, Nat.add_zero, List.length_cons, List.length_nil, Nat.zero_add]
    rw [hd, ih2, List.take_left]
/-- A word: it has a byte, and no white space. -/
def word (w : List UInt8) : Prop := w ≠ [] ∧ ∀ b ∈ w, isSp b = false
theorem word_no {w : List UInt8} (h : word w) {c : UInt8} (hc : isSp c = true) : c ∉ w := fun e => by have := h.2 c e; rw [hc] at this; cases this
theorem fields_word (s : UInt8) (hs : isSp s = true) (r : List UInt8) : ∀ (w cur : List UInt8), (∀ b ∈ w, isSp b = false) → cur ++ w ≠ [] → fieldsGo cur (w ++ s :: r) = (cur ++ w) :: fieldsGo [] r
  | [], cur, _, h => by
    simp only [List.append_nil, List.nil_append] at h ⊢
    exact fieldsGo_end cur s r hs h
  | b :: w, cur, hw, h => by
    rw [List.cons_append, fieldsGo_more cur b _ (hw b (by simp)), fields_word s hs r w (cur ++ [b]) (fun x hx => hw x (by simp [hx])) (by simp)]
    simp
/-- The fields of words joined by one white byte, and one more behind them. -/
theorem fields_join (c s : UInt8) (hc : isSp c = true) (hs : isSp s = true) (t : List UInt8) : ∀ g : List (List UInt8), g ≠ [] → (∀ w ∈ g, word w) → fieldsGo [] (joinC c g ++ s :: t) = g ++ fieldsGo [] t
  | [], h, _ => absurd rfl h
  | [w], _, hw => by
    have := fields_word s hs t w [] (hw w (by simp)).2 (by simpa using (hw w (by simp)).1)
    simpa [joinC] using this
  | w :: x :: r, _, hw => by
    rw [joinC_cons c w (by simp), List.append_assoc, List.cons_append, fields_word c hc _ w [] (hw w (by simp)).2 (by simpa using (hw w (by simp)).1), fields_join c s hc hs t (x :: r) (by simp) (fun y hy => hw y (by simp [hy]))]
    simp
/-- No two blanks stand side by side. -/
theorem index2_word (c : UInt8) (r : List UInt8) (hr : index r [c, c] = -1) : ∀ w : List UInt8, c ∉ w → index (w ++ r) [c, c] = -1
  | [], _ => hr
  | x :: w, h => by
    have hx : c ≠ x := fun e => h (by simp [e])
    have ih := index2_word c r hr w (fun e => h (by simp [e]))
    rw [List.cons_append, index, ih]
    have h1 : ([c, c] : List UInt8).isPrefixOf (x :: (w ++ r)) = false := by simp [List.isPrefixOf, hx]
    rw [h1]
    simp
theorem index2_join (c : UInt8) : ∀ g : List (List UInt8), (∀ w ∈ g, w ≠ [] ∧ c ∉ w) → index (joinC c g) [c, c] = -1
  | [], _ => by simp [joinC, index]
  | [w], h => by
    have := index2_word c [] (by simp [index]) w (h w (by simp)).2
    simpa [joinC] using this
  | w :: x :: r, h => by
    rw [joinC_cons c w (by simp)]
    refine index2_word c _ ?_ w (h w (by simp)).2
    have ih := index2_join c (x :: r) (fun y hy => h y (by simp [hy]))
    have hx := h x (by simp)
    rw [index, ih]
    have h1 : ([c, c] : List UInt8).isPrefixOf (c :: joinC c (x :: r)) = false := by
      obtain ⟨a, x', rfl⟩ : ∃ a x', x = a :: x' := by cases x with | nil => exact absurd rfl hx.1 | cons a x' => exact ⟨a, x', rfl⟩
      have hne : c ≠ a := fun e => hx.2 (by simp [e])
      cases r with
      | nil => simp [joinC, List.isPrefixOf, hne]
      | cons y r => rw [joinC_cons c _ (by simp)]; simp [List.isPrefixOf, hne]
    rw [h1]
    simp
theorem joinC_last (c : UInt8) : ∀ g : List (List UInt8), g ≠ [] → ∃ p w, w ∈ g ∧ joinC c g = p ++ w
  | [], h => absurd rfl h
  | [w], _ => ⟨[], w, by simp, rfl⟩
  | w :: x :: r, _ => by
    obtain ⟨p, y, hy, e⟩ := joinC_last c (x :: r) (by simp)
    exact ⟨w ++ c :: p, y, List.mem_cons_of_mem _ hy, by rw [joinC_cons c w (by simp), e]; simp⟩
theorem suffix_no (c : UInt8) (g : List (List UInt8)) (hg : g ≠ []) (h : ∀ w ∈ g, w ≠ [] ∧ c ∉ w) : hasSuffix (joinC c g) [c] = false := by
  obtain ⟨p, w, hw, e⟩ := joinC_last c g hg
  obtain ⟨h0, h1⟩ := h w hw
  rw [hasSuffix, e]
  apply Bool.eq_false_iff.2
  intro hs
  rw [List.isSuffixOf_iff_suffix] at hs
  obtain ⟨t, ht⟩ := hs
  obtain ⟨w', x, rfl⟩ : ∃ w' x, w = w' ++ [x] := ⟨w.dropLast, w.getLast h0, (List.dropLast_concat_getLast h0).symm⟩
  rw [← List.append_assoc] at ht
  have hx := List.append_inj_right' ht rfl
  simp only [List.cons.injEq, and_true] at hx
  exact h1 (by rw [hx]; simp)
theorem cut_word (c : UInt8) (g : List (List UInt8)) (w : List UInt8) (h : c ∉ w) : (cut (joinC c (w :: g)) [c]).1 = w := by
  unfold cut
  cases g with
  | nil => rw [joinC, index_no c w h]; rfl
  | cons x r =>
    rw [joinC_cons c w (by simp), index_at c _ w h, if_pos (by omega), Int.toNat_natCast, List.take_left]

open Go.Proofs.YtlpoglkddknedaaDoor.H
def lenJ (g : List (List UInt8)) : Nat := (joinC 32 g).length
/-- The words of the lines: the last line's words are g. -/
def grp (width : Int) : List (List UInt8) → List (List UInt8) → List (List (List UInt8))
  | [], g => [g]
  | w :: ws, g => if (lenJ g : Int) + 1 + w.length ≤ width then grp width ws (g ++ [w]) else g :: grp width ws [w]
theorem grp_head (width : Int) : ∀ (ws g : List (List UInt8)), ∃ t r, grp width ws g = (g ++ t) :: r
  | [], g => ⟨[], [], by simp [grp]⟩
  | w :: ws, g => by
    rw [grp]
    split
    · obtain ⟨t, r, e⟩ := grp_head width ws (g ++ [w])
      exact ⟨w :: t, r, by rw [e]; simp⟩
    · exact ⟨[], grp width ws [w], by simp⟩
theorem grp_nonnil (width : Int) (ws g : List (List UInt8)) : grp width ws g ≠ [] := by
  obtain ⟨t, r, e⟩ := grp_head width ws g
  rw [e]; simp
theorem grp_flat (width : Int) : ∀ (ws g : List (List UInt8)), (grp width ws g).flatten = g ++ ws
  | [], g => by simp [grp]
  | w :: ws, g => by
    rw [grp]
    split
    · rw [grp_flat width ws (g ++ [w])]; simp
    · rw [List.flatten_cons, grp_flat width ws [w]]; simp
theorem grp_ne (width : Int) : ∀ (ws g : List (List UInt8)), g ≠ [] → ∀ x ∈ grp width ws g, x ≠ []
  | [], g, h, x, hx => by simp [grp] at hx; subst hx; exact h
  | w :: ws, g, h, x, hx => by
    rw [grp] at hx
    split at hx
    · exact grp_ne width ws (g ++ [w]) (by simp) x hx
    · rcases List.mem_cons.1 hx with rfl | hx
      · exact h
      · exact grp_ne width ws [w] (by simp) x hx
theorem lenJ_snoc (g : List (List UInt8)) (w : List UInt8) (h : g ≠ []) : lenJ (g ++ [w]) = lenJ g + 1 + w.length := by
  unfold lenJ
  rw [joinC_snoc 32 w h]
  simp; omega
theorem grp_fits (width : Int) : ∀ (ws g : List (List UInt8)), g ≠ [] → (1 < g.length → (lenJ g : Int) ≤ width) → ∀ x ∈ grp width ws g, 1 < x.length → (lenJ x : Int) ≤ width
  | [], g, _, h, x, hx => by simp [grp] at hx; subst hx; exact h
  | w :: ws, g, h0, h, x, hx => by
    rw [grp] at hx
    split at hx
    · rename_i hc
      exact grp_fits width ws (g ++ [w]) (by simp) (fun _ => by rw [lenJ_snoc g w h0]; omega) x hx
    · rcases List.mem_cons.1 hx with rfl | hx
      · exact h
      · exact grp_fits width ws [w] (by simp) (fun e => by simp at e) x hx
/-- A line has no room for the next one's first word. -/
theorem grp_next (width : Int) : ∀ (ws g : List (List UInt8)) (i : Nat) (x y : List (List UInt8)), (grp width ws g)[i]? = some x → (grp width ws g)[i + 1]? = some y → ∃ a t, y = a :: t ∧ width < (lenJ x : Int) + 1 + a.length
  | [], g, i, x, y, hx, hy => by simp [grp] at hy
  | w :: ws, g, i, x, y, hx, hy => by
    rw [grp] at hx hy
    split at hx
    · rename_i hc
      rw [if_pos hc] at hy
      exact grp_next width ws _ i x y hx hy
    · rename_i hc
      rw [if_neg hc] at hy
      cases i with
      | zero =>
        simp only [List.getElem?_cons_zero, Option.some.injEq] at hx
        subst hx
        obtain ⟨t, r, e⟩ := grp_head width ws [w]
        rw [List.getElem?_cons_succ, e] at hy
        simp only [List.getElem?_cons_zero, Option.some.injEq] at hy
        exact ⟨w, t, by rw [← hy]; rfl, by omega⟩
      | succ i => exact grp_next width ws [w] i x y (by simpa using hx) (by simpa using hy)
theorem wrapL_grp (width : Int) : ∀ (ws : List ByteArray) (g : List (List UInt8)) (acc : List UInt8), (∀ w ∈ ws, w.size ≠ 0 ∧ blankF w = false) → g ≠ [] → 0 < lenJ g →
    ∃ n, 0 < n ∧ wrapL width ws (acc ++ joinC 32 g) (lenJ g) = some (acc ++ joinC 10 ((grp width (ws.map (fun x : ByteArray => x.data.toList)) g).map (joinC 32)), n)
  | [], g, acc, _, _, h => ⟨lenJ g, h, by simp [wrapL, grp, joinC]⟩
  | w :: ws, g, acc, hw, hg, h => by
    obtain ⟨h0, h1⟩ := hw w (by simp)
    have hl : w.data.toList.length = w.size := by simp
    rw [wrapL, if_neg (by rintro (e | e); exact h0 e; rw [h1] at e; cases e), if_neg (by omega), List.map_cons, grp]
    by_cases hc : (lenJ g : Int) + 1 + w.size ≤ width
    · rw [if_pos hc, if_pos (by rw [hl]; exact hc)]
      obtain ⟨n, hn, e⟩ := wrapL_grp width ws (g ++ [w.data.toList]) acc (fun x hx => hw x (by simp [hx])) (by simp) (by rw [lenJ_snoc _ _ hg]; omega)
      rw [lenJ_snoc _ _ hg, joinC_snoc 32 _ hg, hl] at e
      exact ⟨n, hn, by rw [← e]; simp⟩
    · rw [if_neg hc, if_neg (by rw [hl]; exact hc)]
      have hl1 : lenJ [w.data.toList] = w.size := by simp [lenJ, joinC]
      obtain ⟨n, hn, e⟩ := wrapL_grp width ws [w.data.toList] (acc ++ joinC 32 g ++ [10]) (fun x hx => hw x (by simp [hx])) (by simp) (by omega)
      rw [hl1] at e
      refine ⟨n, hn, ?_⟩
      rw [List.map_cons, joinC_cons 10 _ (by simp [grp_nonnil])]
      simp only [joinC, List.append_assoc, List.cons_append, List.nil_append] at e ⊢
      exact e
/-- The text of good words: lines of words. -/
theorem wrapG_lines (w : ByteArray) (ws : List ByteArray) (width : Int) (h1 : 1 ≤ width) (h2 : width ≤ 255) (hc : cost (w :: ws) ≤ 1000000) (hw : ∀ x ∈ w :: ws, x.size ≠ 0 ∧ blankF x = false) :
    wrapG (w :: ws) width = some (⟨(joinC 10 ((grp width (ws.map (fun x : ByteArray => x.data.toList)) [w.data.toList]).map (joinC 32)) ++ [10]).toArray⟩, 0) := by
  obtain ⟨h3, h4⟩ := hw w (by simp)
  have hl1 : lenJ [w.data.toList] = w.size := by simp [lenJ, joinC]
  obtain ⟨n, hn, e⟩ := wrapL_grp width ws [w.data.toList] [] (fun x hx => hw x (by simp [hx])) (by simp) (by omega)
  rw [hl1] at e
  unfold wrapG
  rw [if_neg (by omega), if_pos hc, wrapL, if_neg (by rintro (e | e); exact h3 e; rw [h4] at e; cases e), if_pos rfl]
  simp only [joinC, List.nil_append] at e ⊢
  rw [e]
  simp [wrapR, hn]
theorem fields_lines (G : List (List (List UInt8))) (h : ∀ g ∈ G, g ≠ [] ∧ ∀ w ∈ g, word w) (hG : G ≠ []) : fields (joinC 10 (G.map (joinC 32)) ++ [10]) = G.flatten := by
  have key : ∀ (G : List (List (List UInt8))), G ≠ [] → (∀ g ∈ G, g ≠ [] ∧ ∀ w ∈ g, word w) → fieldsGo [] (joinC 10 (G.map (joinC 32)) ++ [10]) = G.flatten := by
    intro G
    induction G with
    | nil => intro h; exact absurd rfl h
    | cons g G ih =>
      intro _ h
      have hg := h g (by simp)
      cases G with
      | nil =>
        have := fields_join 32 10 rfl rfl [] g hg.1 hg.2
        simpa [joinC, fieldsGo] using this
      | cons g2 G =>
        rw [List.map_cons, joinC_cons 10 _ (by simp), List.append_assoc, List.cons_append, fields_join 32 10 rfl rfl _ g hg.1 hg.2, ih (by simp) (fun x hx => h x (by simp [hx]))]
        simp
  exact key G hG h
end Go.Proofs.YtlpoglkddknedaaDoor.Y

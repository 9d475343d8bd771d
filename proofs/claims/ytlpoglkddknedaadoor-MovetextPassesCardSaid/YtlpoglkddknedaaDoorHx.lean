/- The calls of MovetextLines, each by its contract, at texts of lines of words. -/
import Derived.Test.YtlpoglkddknedaaDoorPy
import Derived.Test.YtlpoglkddknedaaDoorHs4
import Derived.Test.YtlpoglkddknedaaDoorHw
import Derived.IntWalk
namespace Go.Proofs.YtlpoglkddknedaaDoor.Y
open Go.RowKit Go.Lib Go.Proofs.YtlpoglkddknedaaDoor.T Go.Proofs.YtlpoglkddknedaaDoor.H Go.Proofs.YtlpoglkddknedaaDoorW.PrintWords Go.Proofs.YtlpoglkddknedaaDoorW.PrintLast
set_option linter.unusedVariables false
set_option linter.unusedSimpArgs false
abbrev mk (l : List UInt8) : ByteArray := ⟨l.toArray⟩
theorem mk_data (s : ByteArray) : mk s.data.toList = s := by cases s; rfl
theorem data_mk (l : List UInt8) : (mk l).data.toList = l := rfl
theorem mk_size (l : List UInt8) : (mk l).size = l.length := by simp [mk, ByteArray.size]
theorem litStr (w : World) (l : List ByteArray) (k : Nat) (hk : l.length = k) (hl : k ≤ 1000000) (cs : Array Value) (hcs : cs = (l.map Value.string).toArray) : Kd.C Kd.string (w.alloc (.cells cs 9)) (some ⟨w.heap.size, 0, none⟩) k l := by
  subst hk
  exact litS _ _ l cs hcs (by omega) (blk_new w _)
/-- How long joined words are. -/
def sumL (ps : List (List UInt8)) : Nat := (ps.map fun p => p.length + 1).sum
theorem joinC_len (c : UInt8) : ∀ ps : List (List UInt8), ps ≠ [] → (joinC c ps).length + 1 = sumL ps
  | [], h => absurd rfl h
  | [p], _ => by simp [joinC, sumL]
  | p :: q :: r, _ => by
    have ih := joinC_len c (q :: r) (by simp)
    rw [joinC_cons c p (by simp)]
    simp only [sumL, List.map_cons, List.sum_cons, List.length_append, List.length_cons] at ih ⊢
    omega
theorem sumL_app (a b : List (List UInt8)) : sumL (a ++ b) = sumL a + sumL b := by simp [sumL]
theorem sumL_lines : ∀ G : List (List (List UInt8)), (∀ g ∈ G, g ≠ []) → sumL (G.map (joinC 32)) = sumL G.flatten
  | [], _ => rfl
  | g :: G, h => by
    have ih := sumL_lines G (fun x hx => h x (by simp [hx]))
    have h1 := joinC_len 32 g (h g (by simp))
    rw [List.flatten_cons, sumL_app, ← ih, ← h1]
    simp [sumL]
theorem sumL_mem : ∀ (G : List (List (List UInt8))) (g : List (List UInt8)), g ∈ G → sumL g ≤ sumL G.flatten
  | [], g, h => by simp at h
  | x :: G, g, h => by
    rw [List.flatten_cons, sumL_app]
    rcases List.mem_cons.1 h with rfl | h
    · omega
    · have := sumL_mem G g h; omega
/-- strings.Split of pieces joined by one byte. -/
theorem split_call (c : UInt8) (ps : List (List UInt8)) (hne : ps ≠ []) (hp : ∀ p ∈ ps, c ∉ p) (N : Nat) (hN : ps.length = N) (s : ByteArray) (hs : s = mk (joinC c ps)) (hl : s.size < 1000000) (w : World) (m : Int) (hm : w.cell? ⟨3, 0, none⟩ = some (.int .i64 m)) :
    Calls Tryd.prog 35 #[.string s, .string ⟨#[c]⟩] w fun e w' => e = .returned (.slice (some ⟨w.heap.size, 0, none⟩) N N) ∧ w' = w.alloc (.cells ((ps.map mk).map Value.string).toArray 9) := by
  subst hs
  obtain ⟨h1, h2⟩ := split_join c ps hne hp
  have e1 : countB (mk (joinC c ps)) ⟨#[c]⟩ + 1 = N := by rw [← hN]; exact h1
  have e2 : splitB ⟨#[c]⟩ 0 (countB (mk (joinC c ps)) ⟨#[c]⟩) (mk (joinC c ps)) = ps.map mk := by
    have h3 := splitB_data ⟨#[c]⟩ 0 (countB (mk (joinC c ps)) ⟨#[c]⟩) (mk (joinC c ps))
    have h4 : (splitB ⟨#[c]⟩ 0 (countB (mk (joinC c ps)) ⟨#[c]⟩) (mk (joinC c ps))).map (fun x => x.data.toList) = ps := h3.trans h2
    have h5 := congrArg (List.map mk) h4
    rw [List.map_map] at h5
    rw [← h5]
    conv => lhs; rw [← List.map_id (splitB ⟨#[c]⟩ 0 (countB (mk (joinC c ps)) ⟨#[c]⟩) (mk (joinC c ps)))]
    exact List.map_congr_left (fun x _ => (mk_data x).symm)
  have h := Tryd.strings_Split (mk (joinC c ps)) ⟨#[c]⟩ m w (by omega) hm (Nat.le_refl 1)
  rw [e1, e2] at h
  exact h
theorem contains_call (c : UInt8) (g : List (List UInt8)) (hg : ∀ w ∈ g, w ≠ [] ∧ c ∉ w) (s : ByteArray) (hs : s = mk (joinC c g)) (hl : s.size < 1000000) (w : World) (m : Int) (hm : w.cell? ⟨3, 0, none⟩ = some (.int .i64 m)) :
    Calls Tryd.prog 36 #[.string s, .string ⟨#[c, c]⟩] w fun e w' => e = .returned (.bool false) ∧ w' = w := by
  subst hs
  have h := Tryd.strings_Contains (mk (joinC c g)) ⟨#[c, c]⟩ m w (by omega) hm
  have e : contains (joinC c g) [c, c] = false := by
    unfold contains
    rw [index2_join c g hg]
    rfl
  rw [show contains (mk (joinC c g)).data.toList (⟨#[c, c]⟩ : ByteArray).data.toList = false from e] at h
  exact h
theorem suffix_call (c : UInt8) (g : List (List UInt8)) (hne : g ≠ []) (hg : ∀ w ∈ g, w ≠ [] ∧ c ∉ w) (s : ByteArray) (hs : s = mk (joinC c g)) (hl : s.size < 1000000) (w : World) :
    Calls Tryd.prog 37 #[.string s, .string ⟨#[c]⟩] w fun e w' => e = .returned (.bool false) ∧ w' = w := by
  subst hs
  have h := Tryd.strings_HasSuffix (mk (joinC c g)) ⟨#[c]⟩ w (by omega)
  rw [show hasSuffix (mk (joinC c g)).data.toList (⟨#[c]⟩ : ByteArray).data.toList = false from suffix_no c g hne hg] at h
  exact h
theorem cut_call (c : UInt8) (a : List UInt8) (g : List (List UInt8)) (ha : c ∉ a) (s : ByteArray) (hs : s = mk (joinC c (a :: g))) (hl : s.size < 1000000) (w : World) (m : Int) (hm : w.cell? ⟨3, 0, none⟩ = some (.int .i64 m)) :
    Calls Tryd.prog 38 #[.string s, .string ⟨#[c]⟩] w fun e w' => ∃ (s2 : ByteArray) (b : Bool), e = .returned (.tuple #[.string (mk a), .string s2, .bool b]) ∧ Below w.heap.size w w' := by
  subst hs
  have h := Tryd.strings_Cut (mk (joinC c (a :: g))) ⟨#[c]⟩ m w (by omega) hm
  refine h.mono ?_
  rintro e w' ⟨rfl, k, rfl⟩
  rw [show (cut (mk (joinC c (a :: g))).data.toList (⟨#[c]⟩ : ByteArray).data.toList).1 = a from cut_word c g a ha]
  exact ⟨_, _, rfl, belDrew (Below.refl _ _) k⟩
theorem eqS (l : List ByteArray) (hl : l.length ≤ 1000) : ∀ (n j : Nat), l.length - j ≤ n → j ≤ l.length → slices_Equal_string_string.l0 (n + 1) l l (l.length : Int) (j : Int) = some true := by
  intro n
  induction n with
  | zero =>
    intro j hj hjl
    rw [slices_Equal_string_string.l0, if_neg (show ¬ (j : Int) < (l.length : Int) by omega)]
  | succ n ih =>
    intro j hj hjl
    rw [slices_Equal_string_string.l0]
    by_cases h : j < l.length
    · have hs : wrap64 ((j : Int) + 1) = ((j + 1 : Nat) : Int) := by rw [IntWalk.wrap64_in _ (by omega)]; rfl
      simp only [if_pos (show (j : Int) < (l.length : Int) by omega), if_pos (show (0 : Int) ≤ j by omega), hs, ↓reduceIte]
      exact ih (j + 1) (by omega) (by omega)
    · rw [if_neg (show ¬ (j : Int) < (l.length : Int) by omega)]
theorem eqS_call (l : List ByteArray) (n : Nat) (hn : l.length = n) (hl : n ≤ 1000) (w : World) (A0 A1 : Option Addr) (c0 c1 : Nat) (h0 : Kd.C Kd.string w A0 n l) (hc0 : n ≤ c0) (h1 : Kd.C Kd.string w A1 n l) (hc1 : n ≤ c1) :
    Calls Tryd.prog 20 #[.slice A0 n c0, .slice A1 n c1] w fun e w' => e = .returned (.bool true) ∧ Below w.heap.size w w' := by
  subst hn
  refine (slices_Equal_string_string.calls (l.length + 1) A0 c0 l A1 c1 l true w h0 hc0 h1 hc1 ?_).mono ?_
  · unfold slices_Equal_string_string.f
    rw [if_pos rfl]
    exact eqS l hl l.length 0 (by omega) (by omega)
  · rintro e w' ⟨rfl, nd, rfl⟩
    exact ⟨rfl, belDrew (Below.refl _ _) nd⟩
/-- strings.Fields of an ASCII text. -/
theorem fields_call (s : ByteArray) (ws : List ByteArray) (n : Nat) (hn : ws.length = n) (hn2 : n ≤ 1000) (hf : fields s.data.toList = ws.map (fun x => x.data.toList)) (hl : s.size < 1000000) (ha : ∀ b ∈ s.data.toList, b.toNat < 128) (w : World) (htab : Lib.TabIs Tryd.prog w "strings.asciiSpace" .u8 Lib.asciiSpaceTab) :
    Calls Tryd.prog 34 #[.string s] w fun e w' => ∃ A1, e = .returned (.slice A1 n n) ∧ Kd.C Kd.string w' A1 n ws ∧ Below w.heap.size w w' := by
  refine (Tryd.strings_Fields_laid s w (by omega) (fun j b hb => ha b (List.mem_of_getElem? hb)) htab).mono ?_
  rintro e w' ⟨rfl, rfl⟩
  rw [hf, List.length_map, hn, List.map_map]
  refine ⟨_, rfl, ?_, (Below.refl _ _).alloc (Nat.le_refl _) _⟩
  refine litStr w ws n hn (by omega) _ ?_
  congr 1
end Go.Proofs.YtlpoglkddknedaaDoor.Y

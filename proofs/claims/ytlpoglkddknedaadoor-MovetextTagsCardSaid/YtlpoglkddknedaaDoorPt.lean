/- The plain law of MovetextTags: what Tags answers at a row of tags with comments between. No program in sight. Conditions: at most 24 tags. -/
import Derived.Test.YtlpoglkddknedaaDoorHm
namespace Go.Proofs.YtlpoglkddknedaaDoor.G
open Go.RowKit Go.Proofs.YtlpoglkddknedaaDoor.T Go.Proofs.YtlpoglkddknedaaDoor.H Go.Proofs.YtlpoglkddknedaaDoorW.PrintWords Go.Proofs.YtlpoglkddknedaaDoorW.PrintLast
set_option linter.unusedVariables false
set_option linter.unusedSimpArgs false
/-- A comment ahead of a token, if the bit says so. -/
def cm (b : Bool) (t : S46) : List S46 := if b then [⟨10, t.f1, 0⟩] else []
def tO : S46 := ⟨5, ⟨#[91]⟩, 0⟩
def tC : S46 := ⟨6, ⟨#[93]⟩, 0⟩
def tN (s : ByteArray) : S46 := ⟨2, s, 0⟩
def tV (s : ByteArray) : S46 := ⟨1, s, 0⟩
/-- One tag's tokens but the closing one, x in the place of what is behind the value. -/
def tag3 (b : Nat → Bool) (n : Nat) (t : S56) (x : List S46) : List S46 :=
  cm (b n) tO ++ tO :: (cm (b (n + 1)) (tN t.f0) ++ tN t.f0 :: (cm (b (n + 2)) (tV t.f1) ++ tV t.f1 :: x))
def tagRow (b : Nat → Bool) : Nat → List S56 → List S46
  | _, [] => []
  | n, t :: r => tag3 b n t (cm (b (n + 3)) tC ++ tC :: tagRow b (n + 4) r)
theorem tag3_app (b n t x y) : tag3 b n t (x ++ y) = tag3 b n t x ++ y := by simp [tag3]
theorem tag3_nil (b n t x) : tag3 b n t x = tag3 b n t [] ++ x := by rw [← tag3_app, List.nil_append]
theorem row_app (b : Nat → Bool) : ∀ (l r : List S56) (n : Nat), tagRow b n (l ++ r) = tagRow b n l ++ tagRow b (n + 4 * l.length) r
  | [], r, n => by simp [tagRow]
  | t :: l, r, n => by
    rw [List.cons_append, tagRow, tagRow, row_app b l r, ← tag3_app]
    simp only [List.append_assoc, List.cons_append, List.length_cons]
    rw [show n + 4 + 4 * l.length = n + 4 * (l.length + 1) by omega]
theorem lead_cm (b : Bool) (u t : S46) (s : List S46) (ht : t.f0 ≠ 10) : lead 10 (cm b u ++ t :: s) = (cm b u).length := by
  cases b <;> simp [cm, lead, ht]
theorem skp_at {l p s : List S46} {b : Bool} {u t : S46} (h : l = p ++ (cm b u ++ t :: s)) (ht : t.f0 ≠ 10) {i : Nat} (hi : i = p.length) : skp l i = i + (cm b u).length := by
  subst hi
  rw [skp, h, List.drop_left, lead_cm b u t s ht]
theorem kind_at {l p s : List S46} {t : S46} (h : l = p ++ t :: s) {i : Nat} (hi : i = p.length) (k : Int) : kindAt l i k ↔ t.f0 = k := by
  subst hi h
  constructor
  · rintro ⟨_, h⟩
    rwa [List.getElem_append_right (Nat.le_refl _), show (t :: s)[p.length - p.length]'(by simp) = t by simp] at h
  · intro h
    refine ⟨by simp, ?_⟩
    rw [List.getElem_append_right (Nat.le_refl _)]
    simpa using h
theorem txt_at {l p s : List S46} {t : S46} (h : l = p ++ t :: s) {i : Nat} (hi : i = p.length) : txt l i = t.f1 := by
  subst hi h
  unfold txt rd_T46
  simp
theorem kind_end {l : List S46} {i : Nat} (hi : l.length ≤ i) (k : Int) : ¬ kindAt l i k := fun ⟨h, _⟩ => by omega
/-- Three of the four tokens are passed. -/
theorem tag_step (b : Nat → Bool) (n k : Nat) (t : S56) (l p x : List S46) (out : List S56) (hl : l = p ++ tag3 b n t x) (ho : out.length < 24) :
    ∃ i, i = (p ++ tag3 b n t []).length ∧ tagsN (k + 1) l (skp l p.length) out = if kindAt l (skp l i) 6 then tagsN k l (skp l (skp l i + 1)) (out ++ [t]) else some ([], 0, 16) := by
  unfold tag3 at hl
  have e0 : skp l p.length = (p ++ cm (b n) tO).length := by rw [skp_at hl (by decide) rfl, List.length_append]
  have h1 : l = (p ++ cm (b n) tO) ++ tO :: (cm (b (n + 1)) (tN t.f0) ++ tN t.f0 :: (cm (b (n + 2)) (tV t.f1) ++ tV t.f1 :: x)) := by rw [hl]; simp
  have k1 : kindAt l (p ++ cm (b n) tO).length 5 := (kind_at h1 rfl 5).2 rfl
  have h2 : l = (p ++ cm (b n) tO ++ [tO]) ++ (cm (b (n + 1)) (tN t.f0) ++ tN t.f0 :: (cm (b (n + 2)) (tV t.f1) ++ tV t.f1 :: x)) := by rw [hl]; simp
  have e2 : skp l ((p ++ cm (b n) tO).length + 1) = (p ++ cm (b n) tO ++ [tO] ++ cm (b (n + 1)) (tN t.f0)).length := by
    rw [skp_at h2 (show (tN t.f0).f0 ≠ 10 by simp [tN]) (by simp <;> omega)]; simp <;> omega
  have h3 : l = (p ++ cm (b n) tO ++ [tO] ++ cm (b (n + 1)) (tN t.f0)) ++ tN t.f0 :: (cm (b (n + 2)) (tV t.f1) ++ tV t.f1 :: x) := by rw [hl]; simp
  have k3 : kindAt l (p ++ cm (b n) tO ++ [tO] ++ cm (b (n + 1)) (tN t.f0)).length 2 := (kind_at h3 rfl 2).2 rfl
  have x3 : txt l (p ++ cm (b n) tO ++ [tO] ++ cm (b (n + 1)) (tN t.f0)).length = t.f0 := txt_at h3 rfl
  have h4 : l = (p ++ cm (b n) tO ++ [tO] ++ cm (b (n + 1)) (tN t.f0) ++ [tN t.f0]) ++ (cm (b (n + 2)) (tV t.f1) ++ tV t.f1 :: x) := by rw [hl]; simp
  have e4 : skp l ((p ++ cm (b n) tO ++ [tO] ++ cm (b (n + 1)) (tN t.f0)).length + 1) = (p ++ cm (b n) tO ++ [tO] ++ cm (b (n + 1)) (tN t.f0) ++ [tN t.f0] ++ cm (b (n + 2)) (tV t.f1)).length := by
    rw [skp_at h4 (show (tV t.f1).f0 ≠ 10 by simp [tV]) (by simp <;> omega)]; simp <;> omega
  have h5 : l = (p ++ cm (b n) tO ++ [tO] ++ cm (b (n + 1)) (tN t.f0) ++ [tN t.f0] ++ cm (b (n + 2)) (tV t.f1)) ++ tV t.f1 :: x := by rw [hl]; simp
  have k5 : kindAt l (p ++ cm (b n) tO ++ [tO] ++ cm (b (n + 1)) (tN t.f0) ++ [tN t.f0] ++ cm (b (n + 2)) (tV t.f1)).length 1 := (kind_at h5 rfl 1).2 rfl
  have x5 : txt l (p ++ cm (b n) tO ++ [tO] ++ cm (b (n + 1)) (tN t.f0) ++ [tN t.f0] ++ cm (b (n + 2)) (tV t.f1)).length = t.f1 := txt_at h5 rfl
  refine ⟨_, rfl, ?_⟩
  rw [tagsN, e0, if_pos k1, if_neg (by omega), e2, if_pos k3, e4, if_pos k5, x3, x5]
  rw [show (p ++ cm (b n) tO ++ [tO] ++ cm (b (n + 1)) (tN t.f0) ++ [tN t.f0] ++ cm (b (n + 2)) (tV t.f1)).length + 1 = (p ++ tag3 b n t []).length by simp [tag3]; omega]
/-- What may be behind the tags. -/
def stops (r : List S46) : Prop := ∀ t s, r = t :: s → t.f0 ≠ 5 ∧ t.f0 ≠ 10
theorem tags_row (b : Nat → Bool) (rest : List S46) (hr : stops rest) : ∀ (ts : List S56) (n k : Nat) (p L : List S46) (out : List S56), L = p ++ (tagRow b n ts ++ rest) → ts.length < k → out.length + ts.length ≤ 24 →
    tagsN k L (skp L p.length) out = some (out ++ ts, ((p.length + (tagRow b n ts).length : Nat) : Int), 0)
  | [], n, k, p, L, out, hL, hk, ho => by
    obtain ⟨k, rfl⟩ : ∃ j, k = j + 1 := ⟨k - 1, by simp at hk; omega⟩
    simp only [tagRow, List.nil_append] at hL
    have e : skp L p.length = p.length := by
      rw [skp, hL, List.drop_left]
      cases rest with
      | nil => rfl
      | cons t s => rw [lead, if_neg (hr t s rfl).2]; rfl
    have hn : ¬ kindAt L p.length 5 := by
      cases rest with
      | nil => exact kind_end (by rw [hL]; simp) 5
      | cons t s => rw [kind_at hL rfl]; exact (hr t s rfl).1
    rw [tagsN, e, if_neg hn]
    simp [tagRow]
  | t :: ts, n, k, p, L, out, hL, hk, ho => by
    obtain ⟨k, rfl⟩ : ∃ j, k = j + 1 := ⟨k - 1, by simp at hk; omega⟩
    simp only [List.length_cons] at hk ho
    rw [tagRow, ← tag3_app] at hL
    obtain ⟨i, hi, e⟩ := tag_step b n k t L p _ out hL (by omega)
    have h1 : L = (p ++ tag3 b n t []) ++ (cm (b (n + 3)) tC ++ tC :: (tagRow b (n + 4) ts ++ rest)) := by rw [hL, tag3_nil]; simp
    have e1 : skp L i = (p ++ tag3 b n t [] ++ cm (b (n + 3)) tC).length := by rw [skp_at h1 (by decide) hi, hi]; simp <;> omega
    have h2 : L = (p ++ tag3 b n t [] ++ cm (b (n + 3)) tC) ++ tC :: (tagRow b (n + 4) ts ++ rest) := by rw [h1]; simp
    have h3 : L = (p ++ tag3 b n t (cm (b (n + 3)) tC ++ [tC])) ++ (tagRow b (n + 4) ts ++ rest) := by
      rw [h1, show cm (b (n + 3)) tC ++ [tC] = [] ++ (cm (b (n + 3)) tC ++ [tC]) by simp, tag3_app]; simp
    have e3 : (p ++ tag3 b n t [] ++ cm (b (n + 3)) tC).length + 1 = (p ++ tag3 b n t (cm (b (n + 3)) tC ++ [tC])).length := by
      rw [show cm (b (n + 3)) tC ++ [tC] = [] ++ (cm (b (n + 3)) tC ++ [tC]) by simp, tag3_app]; simp; omega
    rw [e, e1, if_pos ((kind_at h2 rfl 6).2 rfl), e3, tags_row b rest hr ts (n + 4) k _ L (out ++ [t]) h3 (by omega) (by simp; omega)]
    have e4 : (tag3 b n t (cm (b (n + 3)) tC ++ tC :: tagRow b (n + 4) ts)).length = (tag3 b n t (cm (b (n + 3)) tC ++ [tC])).length + (tagRow b (n + 4) ts).length := by
      rw [show cm (b (n + 3)) tC ++ tC :: tagRow b (n + 4) ts = (cm (b (n + 3)) tC ++ [tC]) ++ tagRow b (n + 4) ts by simp, tag3_app b n t (cm (b (n + 3)) tC ++ [tC]), List.length_append]
    rw [tagRow, e4, List.length_append, Nat.add_assoc, List.append_assoc, List.singleton_append]
/-- A row of tags of which the last lacks its closing token is malformed. -/
theorem tags_cut (b : Nat → Bool) (m : Nat) (u : S56) (c : Bool) : ∀ (ts : List S56) (n k : Nat) (p L : List S46) (out : List S56), L = p ++ (tagRow b n ts ++ tag3 b m u (cm c tC)) → ts.length < k → out.length + ts.length < 24 →
    tagsN k L (skp L p.length) out = some ([], 0, 16)
  | [], n, k, p, L, out, hL, hk, ho => by
    obtain ⟨k, rfl⟩ : ∃ j, k = j + 1 := ⟨k - 1, by simp at hk; omega⟩
    simp only [tagRow, List.nil_append, List.length_nil, Nat.add_zero] at hL ho
    obtain ⟨i, hi, e⟩ := tag_step b m k u L p _ out hL ho
    have h1 : L = (p ++ tag3 b m u []) ++ cm c tC := by rw [hL, tag3_nil]; simp
    have e1 : L.length ≤ skp L i := by
      rw [skp, h1, hi, List.drop_left]
      cases c <;> simp [cm, lead] <;> omega
    rw [e, if_neg (kind_end e1 6)]
  | t :: ts, n, k, p, L, out, hL, hk, ho => by
    obtain ⟨k, rfl⟩ : ∃ j, k = j + 1 := ⟨k - 1, by simp at hk; omega⟩
    simp only [List.length_cons] at hk ho
    rw [tagRow, ← tag3_app] at hL
    obtain ⟨i, hi, e⟩ := tag_step b n k t L p _ out hL (by omega)
    have h1 : L = (p ++ tag3 b n t []) ++ (cm (b (n + 3)) tC ++ tC :: (tagRow b (n + 4) ts ++ tag3 b m u (cm c tC))) := by rw [hL, tag3_nil]; simp
    have e1 : skp L i = (p ++ tag3 b n t [] ++ cm (b (n + 3)) tC).length := by rw [skp_at h1 (by decide) hi, hi]; simp <;> omega
    have h2 : L = (p ++ tag3 b n t [] ++ cm (b (n + 3)) tC) ++ tC :: (tagRow b (n + 4) ts ++ tag3 b m u (cm c tC)) := by rw [h1]; simp
    have h3 : L = (p ++ tag3 b n t (cm (b (n + 3)) tC ++ [tC])) ++ (tagRow b (n + 4) ts ++ tag3 b m u (cm c tC)) := by
      rw [h1, show cm (b (n + 3)) tC ++ [tC] = [] ++ (cm (b (n + 3)) tC ++ [tC]) by simp, tag3_app]; simp
    have e3 : (p ++ tag3 b n t [] ++ cm (b (n + 3)) tC).length + 1 = (p ++ tag3 b n t (cm (b (n + 3)) tC ++ [tC])).length := by
      rw [show cm (b (n + 3)) tC ++ [tC] = [] ++ (cm (b (n + 3)) tC ++ [tC]) by simp, tag3_app]; simp; omega
    rw [e, e1, if_pos ((kind_at h2 rfl 6).2 rfl), e3, tags_cut b m u c ts (n + 4) k _ L (out ++ [t]) h3 (by omega) (by simp; omega)]
end Go.Proofs.YtlpoglkddknedaaDoor.G

/- The plain law of MovetextPasses: what Parse answers at a row of moves with things between that are passed over. No program in sight. -/
import Derived.Test.YtlpoglkddknedaaDoorHv
namespace Go.Proofs.YtlpoglkddknedaaDoor.Z
open Go.RowKit Go.Proofs.YtlpoglkddknedaaDoor.T Go.Proofs.YtlpoglkddknedaaDoor.H Go.Proofs.YtlpoglkddknedaaDoorW.PrintWords Go.Proofs.YtlpoglkddknedaaDoorW.PrintLast
set_option linter.unusedVariables false
set_option linter.unusedSimpArgs false
def opn : List S46 := [⟨7, ⟨#[40]⟩, 0⟩, ⟨2, ⟨#[101, 53]⟩, 0⟩, ⟨3, ⟨#[46]⟩, 0⟩, ⟨4, ⟨#[42]⟩, 0⟩]
def cls : List S46 := [⟨2, ⟨#[49, 45, 48]⟩, 0⟩, ⟨8, ⟨#[41]⟩, 0⟩]
def dot1 : S46 := ⟨3, ⟨#[46]⟩, 0⟩
/-- The tokens of what is passed over. -/
def nz (num : Int → ByteArray) (kind deep : Int) : List S46 :=
  if kind % 6 = 0 then [⟨10, ⟨#[49, 45, 48, 32, 41, 32, 91]⟩, 0⟩]
  else if kind % 6 = 1 then [⟨9, ⟨#[49, 52]⟩, 0⟩]
  else if kind % 6 = 2 then [⟨11, ⟨#[33, 63]⟩, 0⟩]
  else if kind % 6 = 3 then ⟨2, num deep, 0⟩ :: List.replicate (deep % 4).toNat dot1
  else rep (1 + deep % 5).toNat opn ++ rep (1 + deep % 5).toNat cls
/-- Parse comes from place i with the moves ms to place j with the moves ms'. -/
def Goes (l : List S46) (i : Nat) (ms : List ByteArray) (j : Nat) (ms' : List ByteArray) : Prop := ∀ k, l.length < k + i → ∃ k', l.length < k' + j ∧ parseN k l i ms = parseN k' l j ms'
theorem Goes.refl (l i ms) : Goes l i ms i ms := fun k h => ⟨k, h, rfl⟩
theorem Goes.trans {l i ms j ms' m ms''} (h : Goes l i ms j ms') (h' : Goes l j ms' m ms'') : Goes l i ms m ms'' := fun k hk => by
  obtain ⟨k1, a1, e1⟩ := h k hk
  obtain ⟨k2, a2, e2⟩ := h' k1 a1
  exact ⟨k2, a2, e1.trans e2⟩
theorem at_i {l p s : List S46} {t : S46} (h : l = p ++ t :: s) {i : Nat} (hi : i = p.length) : ∃ hl : i < l.length, l[i] = t ∧ l.drop (i + 1) = s := by
  subst hi h
  refine ⟨by simp, by simp, ?_⟩
  rw [← List.drop_drop, List.drop_left]
  rfl
theorem go_skip {l p s : List S46} {t : S46} (h : l = p ++ t :: s) {i : Nat} (hi : i = p.length) (ms : List ByteArray) (ht : t.f0 = 10 ∨ t.f0 = 9 ∨ t.f0 = 11) : Goes l i ms (i + 1) ms := fun k hk => by
  obtain ⟨hl, e, _⟩ := at_i h hi
  obtain ⟨k, rfl⟩ : ∃ z, k = z + 1 := ⟨k - 1, by omega⟩
  exact ⟨k, by omega, by rw [parseN, dif_pos hl, e, if_pos ht]⟩
theorem go_move {l p s : List S46} {t : S46} (h : l = p ++ t :: s) {i : Nat} (hi : i = p.length) (ms : List ByteArray) (ht : t.f0 = 2) (hn : numF t.f1 = false) (hr : resF t.f1 < 1) (hm : ms.length < 300) : Goes l i ms (i + 1) (ms ++ [t.f1]) := fun k hk => by
  obtain ⟨hl, e, _⟩ := at_i h hi
  obtain ⟨k, rfl⟩ : ∃ z, k = z + 1 := ⟨k - 1, by omega⟩
  refine ⟨k, by omega, ?_⟩
  rw [parseN, dif_pos hl, e, if_neg (by rw [ht]; decide), if_neg (by rw [ht]; decide), if_neg (by rw [ht]; decide), if_pos ht, hn, if_neg (by decide), if_neg (by omega), if_neg (by omega)]
theorem lead_dots (s : List S46) (hs : ∀ t r, s = t :: r → t.f0 ≠ 3) : ∀ n : Nat, lead 3 (List.replicate n dot1 ++ s) = n
  | 0 => by
    cases s with
    | nil => rfl
    | cons t r => rw [List.replicate_zero, List.nil_append, lead, if_neg (hs t r rfl)]
  | n + 1 => by rw [List.replicate_succ, List.cons_append, lead, if_pos (show dot1.f0 = 3 from rfl), lead_dots s hs n]
theorem go_num {l p s : List S46} {t : S46} (n : Nat) (h : l = p ++ t :: (List.replicate n dot1 ++ s)) {i : Nat} (hi : i = p.length) (ms : List ByteArray) (ht : t.f0 = 2) (hn : numF t.f1 = true) (hs : ∀ t r, s = t :: r → t.f0 ≠ 3) : Goes l i ms (i + 1 + n) ms := fun k hk => by
  obtain ⟨hl, e, e2⟩ := at_i h hi
  obtain ⟨k, rfl⟩ : ∃ z, k = z + 1 := ⟨k - 1, by omega⟩
  refine ⟨k, by omega, ?_⟩
  rw [parseN, dif_pos hl, e, if_neg (by rw [ht]; decide), if_neg (by rw [ht]; decide), if_neg (by rw [ht]; decide), if_pos ht, hn, if_pos rfl, e2, lead_dots s hs n]
theorem go_var {l p s : List S46} {t : S46} (h : l = p ++ t :: s) {i : Nat} (hi : i = p.length) (ms : List ByteArray) (ht : t.f0 = 7) (n : Nat) (hv : varS s 1 = some n) : Goes l i ms (i + 1 + n) ms := fun k hk => by
  obtain ⟨hl, e, e2⟩ := at_i h hi
  obtain ⟨k, rfl⟩ : ∃ z, k = z + 1 := ⟨k - 1, by omega⟩
  refine ⟨k, by omega, ?_⟩
  rw [parseN, dif_pos hl, e, if_neg (by rw [ht]; decide), if_pos ht, e2, hv]
theorem rep_succ (n : Nat) (l : List S46) : rep (n + 1) l = l ++ rep n l := by unfold rep; rw [List.replicate_succ, List.flatten_cons]
theorem varS_opn (r : List S46) : ∀ (j d : Nat), varS (rep j opn ++ r) d = (varS r (d + j)).map (· + 4 * j)
  | 0, d => by
    have e : rep 0 opn = [] := rfl
    rw [e, List.nil_append, Nat.add_zero]
    cases varS r d <;> rfl
  | j + 1, d => by
    rw [rep_succ, List.append_assoc]
    show varS (⟨7, ⟨#[40]⟩, 0⟩ :: ⟨2, ⟨#[101, 53]⟩, 0⟩ :: ⟨3, ⟨#[46]⟩, 0⟩ :: ⟨4, ⟨#[42]⟩, 0⟩ :: (rep j opn ++ r)) d = _
    rw [varS, if_pos rfl, varS, if_neg (by decide), if_neg (by decide), if_pos (by decide), varS, if_neg (by decide), if_neg (by decide), if_pos (by decide), varS, if_neg (by decide), if_neg (by decide), if_pos (by decide), varS_opn r j (d + 1), show d + 1 + j = d + (j + 1) by omega]
    cases varS r (d + (j + 1)) with
    | none => rfl
    | some n => simp only [Option.map_some, Option.some.injEq] <;> omega
theorem varS_cls (s : List S46) : ∀ k : Nat, varS (rep (k + 1) cls ++ s) (k + 1) = some (2 * (k + 1))
  | 0 => by
    rw [rep_succ, List.append_assoc]
    show varS (⟨2, ⟨#[49, 45, 48]⟩, 0⟩ :: ⟨8, ⟨#[41]⟩, 0⟩ :: (rep 0 cls ++ s)) 1 = _
    rw [varS, if_neg (by decide), if_neg (by decide), if_pos (by decide), varS, if_neg (by decide), if_pos rfl, if_pos (by decide)]
    rfl
  | k + 1 => by
    rw [rep_succ, List.append_assoc]
    show varS (⟨2, ⟨#[49, 45, 48]⟩, 0⟩ :: ⟨8, ⟨#[41]⟩, 0⟩ :: (rep (k + 1) cls ++ s)) (k + 1 + 1) = _
    rw [varS, if_neg (by decide), if_neg (by decide), if_pos (by decide), varS, if_neg (by decide), if_pos rfl, if_neg (by omega), Nat.add_sub_cancel, varS_cls s k]
    simp only [Option.map_some]
    congr 1
/-- Whatever is passed over is passed over. -/
theorem go_nz (num : Int → ByteArray) (kind deep : Int) (hd : 0 ≤ deep) (hnum : numF (num deep) = true) {l p s : List S46} (h : l = p ++ (nz num kind deep ++ s)) {i : Nat} (hi : i = p.length) (ms : List ByteArray) (hs : ∀ t r, s = t :: r → t.f0 ≠ 3) :
    Goes l i ms (i + (nz num kind deep).length) ms := by
  unfold nz at h ⊢
  by_cases c0 : kind % 6 = 0
  · rw [if_pos c0] at h ⊢
    exact go_skip h hi ms (.inl rfl)
  rw [if_neg c0] at h ⊢
  by_cases c1 : kind % 6 = 1
  · rw [if_pos c1] at h ⊢
    exact go_skip h hi ms (.inr (.inl rfl))
  rw [if_neg c1] at h ⊢
  by_cases c2 : kind % 6 = 2
  · rw [if_pos c2] at h ⊢
    exact go_skip h hi ms (.inr (.inr rfl))
  rw [if_neg c2] at h ⊢
  by_cases c3 : kind % 6 = 3
  · rw [if_pos c3] at h ⊢
    have e := go_num (s := s) (deep % 4).toNat h hi ms rfl hnum hs
    rw [List.length_cons, List.length_replicate, show i + ((deep % 4).toNat + 1) = i + 1 + (deep % 4).toNat by omega]
    exact e
  rw [if_neg c3] at h ⊢
  obtain ⟨k, hk⟩ : ∃ k : Nat, (1 + deep % 5).toNat = k + 1 := ⟨(deep % 5).toNat, by omega⟩
  rw [hk] at h ⊢
  have hv : varS ((⟨2, ⟨#[101, 53]⟩, 0⟩ : S46) :: ⟨3, ⟨#[46]⟩, 0⟩ :: ⟨4, ⟨#[42]⟩, 0⟩ :: (rep k opn ++ (rep (k + 1) cls ++ s))) 1 = some (6 * k + 5) := by
    rw [varS, if_neg (by decide), if_neg (by decide), if_pos (by decide), varS, if_neg (by decide), if_neg (by decide), if_pos (by decide), varS, if_neg (by decide), if_neg (by decide), if_pos (by decide), varS_opn, Nat.add_comm 1 k, varS_cls s k]
    simp only [Option.map_some]
    congr 1
    omega
  have h' : l = p ++ ((⟨7, ⟨#[40]⟩, 0⟩ : S46) :: (⟨2, ⟨#[101, 53]⟩, 0⟩ :: ⟨3, ⟨#[46]⟩, 0⟩ :: ⟨4, ⟨#[42]⟩, 0⟩ :: (rep k opn ++ (rep (k + 1) cls ++ s)))) := by
    rw [h, rep_succ k opn]
    simp [opn]
  have e := go_var h' hi ms rfl _ hv
  rw [List.length_append, rep_len, rep_len, show opn.length = 4 from rfl, show cls.length = 2 from rfl, show i + ((k + 1) * 4 + (k + 1) * 2) = i + 1 + (6 * k + 5) by omega]
  exact e
/-- No dot stands at the beginning. -/
def noDot (s : List S46) : Prop := ∀ t r, s = t :: r → t.f0 ≠ 3
theorem nz_noDot (num : Int → ByteArray) (kind deep : Int) (s : List S46) : noDot (nz num kind deep ++ s) := by
  intro t r h
  unfold nz at h
  by_cases c0 : kind % 6 = 0
  · rw [if_pos c0] at h; injection h with h1 _; subst h1; show (10 : Int) ≠ 3; decide
  rw [if_neg c0] at h
  by_cases c1 : kind % 6 = 1
  · rw [if_pos c1] at h; injection h with h1 _; subst h1; show (9 : Int) ≠ 3; decide
  rw [if_neg c1] at h
  by_cases c2 : kind % 6 = 2
  · rw [if_pos c2] at h; injection h with h1 _; subst h1; show (11 : Int) ≠ 3; decide
  rw [if_neg c2] at h
  by_cases c3 : kind % 6 = 3
  · rw [if_pos c3] at h; injection h with h1 _; subst h1; show (2 : Int) ≠ 3; decide
  rw [if_neg c3] at h
  obtain ⟨k, hk⟩ : ∃ k : Nat, (1 + deep % 5).toNat = k + 1 := ⟨(1 + deep % 5).toNat - 1, by omega⟩
  rw [hk, rep_succ] at h
  injection h with h1 _
  subst h1
  show (7 : Int) ≠ 3
  decide
/-- What one pass appends, and what is left. -/
def passN (num : Int → ByteArray) : List (Int × Int) → List S46 × List (Int × Int)
  | [] => ([], [])
  | n :: r => if n.2 % 3 = 0 then (nz num n.1 n.2 ++ (passN num r).1, (passN num r).2) else (nz num n.1 n.2, r)
theorem passN_sub (num : Int → ByteArray) : ∀ (N : List (Int × Int)) (x : Int × Int), x ∈ (passN num N).2 → x ∈ N
  | [], x, h => by simp [passN] at h
  | n :: r, x, h => by
    rw [passN] at h
    split at h
    · exact List.mem_cons_of_mem _ (passN_sub num r x h)
    · exact List.mem_cons_of_mem _ h
theorem pass_noDot (num : Int → ByteArray) : ∀ (N : List (Int × Int)) (s : List S46), noDot s → noDot ((passN num N).1 ++ s)
  | [], s, h => h
  | n :: r, s, h => by
    rw [passN]
    split
    · rw [List.append_assoc]; exact nz_noDot num _ _ _
    · exact nz_noDot num _ _ _
theorem go_pass (num : Int → ByteArray) : ∀ (N : List (Int × Int)), (∀ x ∈ N, 0 ≤ x.2 ∧ numF (num x.2) = true) → ∀ {l p s : List S46} (h : l = p ++ ((passN num N).1 ++ s)) {i : Nat} (hi : i = p.length) (ms : List ByteArray), noDot s →
    Goes l i ms (i + (passN num N).1.length) ms
  | [], _, l, p, s, h, i, hi, ms, hs => Goes.refl l i ms
  | n :: r, hN, l, p, s, h, i, hi, ms, hs => by
    have hn := hN n (by simp)
    rw [passN] at h ⊢
    by_cases c : n.2 % 3 = 0
    · rw [if_pos c] at h ⊢
      simp only [List.append_assoc] at h
      have g1 := go_nz num n.1 n.2 hn.1 hn.2 h hi ms (pass_noDot num r s hs)
      have g2 := go_pass num r (fun x hx => hN x (by simp [hx])) (l := l) (p := p ++ nz num n.1 n.2) (s := s) (by rw [h]; simp) (i := i + (nz num n.1 n.2).length) (by rw [hi]; simp) ms hs
      rw [List.length_append, ← Nat.add_assoc]
      exact g1.trans g2
    · rw [if_neg c] at h ⊢
      exact go_nz num n.1 n.2 hn.1 hn.2 h hi ms hs
/-- The row of the moves. -/
def rowN (num : Int → ByteArray) : List ByteArray → List (Int × Int) → List S46
  | [], N => (passN num N).1
  | m :: r, N => (passN num N).1 ++ ⟨2, m, 0⟩ :: rowN num r (passN num N).2
theorem go_row (num : Int → ByteArray) : ∀ (mvs : List ByteArray) (N : List (Int × Int)), (∀ m ∈ mvs, numF m = false ∧ resF m < 1) → (∀ x ∈ N, 0 ≤ x.2 ∧ numF (num x.2) = true) → ∀ {l p s : List S46} (h : l = p ++ (rowN num mvs N ++ s)) {i : Nat} (hi : i = p.length) (ms : List ByteArray), noDot s → ms.length + mvs.length ≤ 300 →
    Goes l i ms (i + (rowN num mvs N).length) (ms ++ mvs)
  | [], N, _, hN, l, p, s, h, i, hi, ms, hs, hl => by
    rw [List.append_nil]
    exact go_pass num N hN h hi ms hs
  | m :: r, N, hm, hN, l, p, s, h, i, hi, ms, hs, hl => by
    rw [rowN] at h ⊢
    have h1 : l = p ++ ((passN num N).1 ++ (⟨2, m, 0⟩ :: (rowN num r (passN num N).2 ++ s))) := by rw [h]; simp
    have g1 := go_pass num N hN h1 hi ms (fun t r e => by injection e with e1 _; subst e1; show (2 : Int) ≠ 3; decide)
    have h2 : l = (p ++ (passN num N).1) ++ (⟨2, m, 0⟩ :: (rowN num r (passN num N).2 ++ s)) := by rw [h1]; simp
    simp only [List.length_cons] at hl
    have g2 := go_move h2 (i := i + (passN num N).1.length) (by rw [hi]; simp) ms rfl (hm m (by simp)).1 (hm m (by simp)).2 (by omega)
    have g3 := go_row num r (passN num N).2 (fun x hx => hm x (by simp [hx])) (fun x hx => hN x (passN_sub num N x hx)) (l := l) (p := p ++ (passN num N).1 ++ [⟨2, m, 0⟩]) (s := s) (by rw [h1]; simp) (i := i + (passN num N).1.length + 1) (by rw [hi]; simp; omega) (ms ++ [m]) hs (by simp; omega)
    have e : i + ((passN num N).1 ++ (⟨2, m, 0⟩ : S46) :: rowN num r (passN num N).2).length = i + (passN num N).1.length + 1 + (rowN num r (passN num N).2).length := by
      simp only [List.length_append, List.length_cons]; omega
    have e2 : ms ++ m :: r = ms ++ [m] ++ r := by simp
    rw [e, e2]
    exact (g1.trans g2).trans g3
/-- Without a result the row is malformed. -/
theorem parse_open (num : Int → ByteArray) (mvs : List ByteArray) (N : List (Int × Int)) (hm : ∀ m ∈ mvs, numF m = false ∧ resF m < 1) (hN : ∀ x ∈ N, 0 ≤ x.2 ∧ numF (num x.2) = true) (hl : mvs.length ≤ 300) (h1 : (rowN num mvs N).length ≤ 140737488351232)
    (h2 : ∀ t ∈ rowN num mvs N, t.f1.size ≤ 9223372036854775807) : parseF (rowN num mvs N) 0 = some ([], 0, 0, 16) := by
  unfold parseF
  rw [if_neg (by omega), if_pos ⟨h1, List.all_eq_true.2 (fun t ht => decide_eq_true (h2 t ht))⟩]
  obtain ⟨k', a, e⟩ := go_row num mvs N hm hN (l := rowN num mvs N) (p := []) (s := []) (by simp) rfl [] (fun t r e => by cases e) (by simpa using hl) ((rowN num mvs N).length + 1) (by simp)
  simp only [List.length_nil, Nat.zero_add, List.nil_append] at e a
  rw [show (0 : Int).toNat = 0 from rfl, e]
  obtain ⟨k, rfl⟩ : ∃ z, k' = z + 1 := ⟨k' - 1, by omega⟩
  rw [parseN, dif_neg (by omega)]
/-- With the result the moves are read, whatever stands in front of the place and behind the result. -/
theorem parse_end (num : Int → ByteArray) (mvs : List ByteArray) (N : List (Int × Int)) (hm : ∀ m ∈ mvs, numF m = false ∧ resF m < 1) (hN : ∀ x ∈ N, 0 ≤ x.2 ∧ numF (num x.2) = true) (hl : mvs.length ≤ 300) (front more : List S46) (t : S46) (w : Int)
    (ht : (t.f0 = 4 ∧ w = 0) ∨ (t.f0 = 2 ∧ numF t.f1 = false ∧ resF t.f1 = w ∧ 1 ≤ w)) (h1 : (front ++ (rowN num mvs N ++ t :: more)).length ≤ 140737488351232) (h2 : ∀ u ∈ front ++ (rowN num mvs N ++ t :: more), u.f1.size ≤ 9223372036854775807) :
    parseF (front ++ (rowN num mvs N ++ t :: more)) (front.length : Int) = some (mvs, w, ((front.length + (rowN num mvs N).length + 1 : Nat) : Int), 0) := by
  have hnd : noDot (t :: more) := fun u r e => by
    injection e with e1 _
    subst e1
    rcases ht with h | h
    · rw [h.1]; decide
    · rw [h.1]; decide
  unfold parseF
  rw [if_neg (by simp only [List.length_append]; omega), if_pos ⟨h1, List.all_eq_true.2 (fun u hu => decide_eq_true (h2 u hu))⟩, Int.toNat_natCast]
  obtain ⟨k', a, e⟩ := go_row num mvs N hm hN (l := front ++ (rowN num mvs N ++ t :: more)) (p := front) (s := t :: more) rfl rfl [] hnd (by simpa using hl) ((front ++ (rowN num mvs N ++ t :: more)).length + 1) (by omega)
  rw [List.nil_append] at e
  rw [e]
  obtain ⟨hlt, e1, _⟩ := at_i (l := front ++ (rowN num mvs N ++ t :: more)) (p := front ++ rowN num mvs N) (s := more) (t := t) (by simp) (i := front.length + (rowN num mvs N).length) (by simp)
  obtain ⟨k, rfl⟩ : ∃ z, k' = z + 1 := ⟨k' - 1, by omega⟩
  rw [parseN, dif_pos hlt, e1]
  rcases ht with ⟨h4, rfl⟩ | ⟨h4, h5, h6, h7⟩
  · rw [if_neg (by rw [h4]; decide), if_neg (by rw [h4]; decide), if_pos h4]
    rfl
  · rw [if_neg (by rw [h4]; decide), if_neg (by rw [h4]; decide), if_neg (by rw [h4]; decide), if_pos h4, h5, if_neg (by decide), if_pos (by omega), h6]
    rfl
end Go.Proofs.YtlpoglkddknedaaDoor.Z

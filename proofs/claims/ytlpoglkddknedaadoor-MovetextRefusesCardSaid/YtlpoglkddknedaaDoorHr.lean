/- MovetextRefuses: what is refused, walked: it answers true. Conditions: the texts' lengths are an int's; the variables hold what their initialisers lay. -/
import Derived.Test.YtlpoglkddknedaaDoorHw
import Derived.IntWalk
import Derived.Lib.ItoaLen
namespace Go.Proofs.YtlpoglkddknedaaDoor.H
open Go.RowKit Go.Shelf Go.Proofs.YtlpoglkddknedaaDoor.T Go.Proofs.YtlpoglkddknedaaDoorW.PrintWords Go.Proofs.YtlpoglkddknedaaDoorW.PrintLast
set_option linter.unusedVariables false
set_option linter.unusedSimpArgs false

theorem parseRange (w : World) (A : Option Addr) (n c : Nat) (a : Int) (h : a < 0 ∨ (n : Int) < a) : Calls Tryd.prog 10 #[.slice A n c, .int .i64 a] w fun e w' => ∃ (A : Option Addr) (c : Nat), e = .returned (.tuple #[.agg #[.slice A 0 c, .int .i64 0], .int .i64 0, .int .i64 3]) ∧ Below w.heap.size w w' := by
  refine (Parse_range A c n a w h).mono ?_
  rintro e w' ⟨v, rfl, hr, hb⟩
  obtain ⟨A, c, rfl⟩ := Kd.R_slice hr
  exact ⟨A, c, rfl, hb⟩
theorem tagsRange (w : World) (A : Option Addr) (n c : Nat) (a : Int) (h : a < 0 ∨ (n : Int) < a) : Calls Tryd.prog 11 #[.slice A n c, .int .i64 a] w fun e w' => ∃ (A : Option Addr) (c : Nat), e = .returned (.tuple #[.slice A 0 c, .int .i64 0, .int .i64 3]) ∧ Below w.heap.size w w' := by
  refine (Tags_range A c n a w h).mono ?_
  rintro e w' ⟨v, rfl, hr, hb⟩
  obtain ⟨A, c, rfl⟩ := Kd.R_slice hr
  exact ⟨A, c, rfl, hb⟩
theorem parseEnd (w : World) (A : Option Addr) (c : Nat) (l : List S46) (hC : Kd.C k46 w A l.length l) (hc : l.length ≤ c) (hl : l.length ≤ 10) (hs : ∀ t ∈ l, t.f1.size ≤ 9223372036854775807) (hg : Laid w) : Calls Tryd.prog 10 #[.slice A l.length c, .int .i64 (l.length : Int)] w fun e w' => ∃ (A : Option Addr) (c : Nat), e = .returned (.tuple #[.agg #[.slice A 0 c, .int .i64 0], .int .i64 0, .int .i64 16]) ∧ Below w.heap.size w w' := by
  have hp : parseF l (l.length : Int) = some ([], 0, 0, 16) := by
    unfold parseF
    rw [if_neg (by omega), if_pos ⟨by omega, List.all_eq_true.2 (fun t ht => decide_eq_true (hs t ht))⟩, Int.toNat_natCast, parseN, dif_neg (by omega)]
  refine (Parse_calls A c l _ _ _ _ _ w hC hc hp hg).mono ?_
  rintro e w' ⟨v, rfl, hr, hb⟩
  obtain ⟨A, c, rfl⟩ := Kd.R_slice hr
  exact ⟨A, c, rfl, hb⟩
theorem tagsEnd (w : World) (A : Option Addr) (c : Nat) (l : List S46) (hC : Kd.C k46 w A l.length l) (hc : l.length ≤ c) (hl : l.length ≤ 10) : Calls Tryd.prog 11 #[.slice A l.length c, .int .i64 (l.length : Int)] w fun e w' => ∃ (A : Option Addr) (c : Nat), e = .returned (.tuple #[.slice A 0 c, .int .i64 (l.length : Int), .int .i64 0]) ∧ Below w.heap.size w w' := by
  have hk : skp l l.length = l.length := by unfold skp; rw [List.drop_eq_nil_of_le (Nat.le_refl _), lead]; rfl
  have hp : tagsF l (l.length : Int) = some ([], (l.length : Int), 0) := by
    unfold tagsF
    rw [if_neg (by omega), if_pos (by omega), Int.toNat_natCast, hk, tagsN, if_neg (fun h => absurd h.1 (Nat.lt_irrefl _))]
  refine (Tags_calls A c l _ _ _ _ w hC hc hp).mono ?_
  rintro e w' ⟨v, rfl, hr, hb⟩
  obtain ⟨A, c, rfl⟩ := Kd.R_slice hr
  exact ⟨A, c, rfl, hb⟩
/-- A call of Wrap that is refused. -/
abbrev WrapNo (A : Option Addr) (n c : Nat) (width : Int) (w : World) : Prop := Calls Tryd.prog 12 #[.slice A n c, .int .i64 width] w fun e w' => e = .returned (.tuple #[.string ⟨#[]⟩, .int .i64 2]) ∧ Below w.heap.size w w'

def ats (m n : Nat) : List Int := [-1 - (m : Int), (n : Int) + 1 + m, -9223372036854775808, 9223372036854775807]
theorem ats_out (m n : Nat) (hm : m ≤ 65535) (hn : n ≤ 10) (a : Int) (ha : a ∈ ats m n) : a < 0 ∨ (n : Int) < a := by
  unfold ats at ha
  simp only [List.mem_cons, List.not_mem_nil, or_false] at ha
  omega


theorem ats_cell (W : World) (m n : Nat) (x : Int) (h0 : 0 ≤ x) (h4 : x < 4) : ∃ a, a ∈ ats m n ∧ (W.alloc (Obj.cells #[Value.int .i64 (-1 - (m : Int)), Value.int .i64 ((n : Int) + 1 + m), Value.int .i64 (-9223372036854775808), Value.int .i64 9223372036854775807] 3)).cell? ⟨W.heap.size, x.toNat, none⟩ = some (.int .i64 a) := by
  rw [World.cell?_alloc_new]
  have hx : x = 0 ∨ x = 1 ∨ x = 2 ∨ x = 3 := by omega
  rcases hx with rfl | rfl | rfl | rfl
  · exact ⟨-1 - (m : Int), by simp [ats], rfl⟩
  · exact ⟨(n : Int) + 1 + m, by simp [ats], rfl⟩
  · exact ⟨-9223372036854775808, by simp [ats], rfl⟩
  · exact ⟨9223372036854775807, by simp [ats], rfl⟩

theorem C_strs (w : World) (b : Nat) (l : List ByteArray) (hl : l.length ≤ 1000) (h : w.heap[b]? = some (.cells (l.map Value.string).toArray 9 (0, 0))) : Kd.C Kd.string w (some ⟨b, 0, none⟩) l.length l := by
  refine ⟨rfl, by omega, fun _ => ⟨_, rfl, fun j p hp => ⟨[.string p], rfl, rfl, fun i u hu => ?_⟩⟩⟩
  match i, hu with
  | 0, hu =>
    obtain rfl := Option.some.inj hu
    show w.cell? ((⟨b, 0, none⟩ : Addr).add (j * 1 + 0)) = _
    rw [Lib.add_plain, blk_cell h, Nat.zero_add, Nat.mul_one, Nat.add_zero]
    simp only [List.getElem?_toArray, List.getElem?_map, hp]
    rfl
theorem alloc_facts {w w' : World} {o : Obj} (h : w.alloc o = w') : w'.heap.size = w.heap.size + 1 ∧ w'.heap[w.heap.size]? = some o ∧ Below w.heap.size w w' := by
  subst h
  exact ⟨by show (w.heap.push o).size = _; rw [Array.size_push], blk_new w o, below_alloc (Below.refl _ _) _⟩
/-- What the law lays: the words and widths that are refused. -/
abbrev tabC (w7 : World) (m : Nat) : Array Value := #[Value.slice none 0 0, Value.int IntKind.i64 (-(m : Int)), Value.slice none 0 0, Value.int IntKind.i64 (256 + (m : Int)),
          Value.slice (some ⟨w7.heap.size, 0, none⟩) 2 2, Value.int IntKind.i64 79,
          Value.slice (some ⟨w7.heap.size + 1, 0, none⟩) 1 1, Value.int IntKind.i64 79,
          Value.slice (some ⟨w7.heap.size + 1 + 1, 0, none⟩) 1 1, Value.int IntKind.i64 79,
          Value.slice (some ⟨w7.heap.size + 1 + 1 + 1, 0, none⟩) 1 1, Value.int IntKind.i64 79,
          Value.slice (some ⟨w7.heap.size + 1 + 1 + 1 + 1, 0, none⟩) 1 1, Value.int IntKind.i64 79]
set_option maxRecDepth 100000 in
theorem tabW_facts (w7 wa wb wc wd we W8 : World) (m : Nat) (hg : Laid w7) (ewa : w7.alloc (Obj.cells #[Value.string ⟨#[97]⟩, Value.string ⟨#[]⟩] 9) = wa) (ewb : wa.alloc (Obj.cells #[Value.string ⟨#[97, 32, 98]⟩] 9) = wb) (ewc : wb.alloc (Obj.cells #[Value.string ⟨#[97, 9]⟩] 9) = wc) (ewd : wc.alloc (Obj.cells #[Value.string ⟨#[13]⟩] 9) = wd) (ewe : wd.alloc (Obj.cells #[Value.string ⟨#[97, 10, 98]⟩] 9) = we) (eW8 : we.alloc (Obj.cells (tabC w7 m) 34) = W8) : Below w7.heap.size w7 W8 ∧ ∀ x : Int, 0 ≤ x → x < 7 → ∃ (A : Option Addr) (k : Nat) (d : Int),
    W8.cell? ⟨w7.heap.size + 1 + 1 + 1 + 1 + 1, x.toNat * 2, none⟩ = some (.slice A k k) ∧ W8.cell? ⟨w7.heap.size + 1 + 1 + 1 + 1 + 1, x.toNat * 2 + 1, none⟩ = some (.int .i64 d) ∧
    ∀ w, Below W8.heap.size W8 w → WrapNo A k k d w := by
  obtain ⟨sa, ha, ba⟩ := alloc_facts ewa
  obtain ⟨sb, hb, bb⟩ := alloc_facts ewb
  obtain ⟨sc, hc, bc⟩ := alloc_facts ewc
  obtain ⟨sd, hd, bd⟩ := alloc_facts ewd
  obtain ⟨se, he, be⟩ := alloc_facts ewe
  obtain ⟨s8, h8, b8⟩ := alloc_facts eW8
  clear ewa ewb ewc ewd ewe eW8
  rw [sa] at hb
  rw [sb, sa] at hc
  rw [sc, sb, sa] at hd
  rw [sd, sc, sb, sa] at he
  rw [se, sd, sc, sb, sa] at h8
  have be8 : Below wd.heap.size wd W8 := be.trans (b8.mono be.size)
  have bd8 : Below wc.heap.size wc W8 := bd.trans (be8.mono bd.size)
  have bc8 : Below wb.heap.size wb W8 := bc.trans (bd8.mono bc.size)
  have bb8 : Below wa.heap.size wa W8 := bb.trans (bc8.mono bb.size)
  have hB : Below w7.heap.size w7 W8 := ba.trans (bb8.mono ba.size)
  have ha := blk_below ha bb8
  have hb := blk_below hb bc8
  have hc := blk_below hc bd8
  have hd := blk_below hd be8
  have he := blk_below he b8
  refine ⟨hB, ?_⟩
  have cell : ∀ i, W8.cell? ⟨w7.heap.size + 1 + 1 + 1 + 1 + 1, i, none⟩ = (tabC w7 m)[i]? := blk_cell h8
  have list : ∀ (b : Nat) (l : List ByteArray), l.length ≤ 1000 → W8.heap[b]? = some (.cells (l.map Value.string).toArray 9 (0, 0)) → wrapF l 79 = some (⟨#[]⟩, 2) → ∀ w, Below W8.heap.size W8 w → WrapNo (some ⟨b, 0, none⟩) l.length l.length 79 w := by
    intro b l hl hh hw w hb
    have hC := C_strs w b l hl (blk_below hh hb)
    exact Wrap_calls _ l.length l 79 ⟨#[]⟩ 2 w hC (Nat.le_refl _) hw (hg.below (hB.trans (hb.mono hB.size)))
  clear h8 sa sb sc sd se s8 ba bb bc bd be b8 be8 bd8 bc8 bb8
  intro x h0 h7
  have hx : x = 0 ∨ x = 1 ∨ x = 2 ∨ x = 3 ∨ x = 4 ∨ x = 5 ∨ x = 6 := by omega
  rcases hx with rfl | rfl | rfl | rfl | rfl | rfl | rfl
  · exact ⟨none, 0, -(m : Int), cell 0, cell 1, fun w _ => Wrap_range none 0 0 _ w (.inl (by omega))⟩
  · exact ⟨none, 0, 256 + (m : Int), cell 2, cell 3, fun w _ => Wrap_range none 0 0 _ w (.inr (by omega))⟩
  · exact ⟨_, 2, 79, cell 4, cell 5, list _ [⟨#[97]⟩, ⟨#[]⟩] (by decide) ha (by kernel_rfl)⟩
  · exact ⟨_, 1, 79, cell 6, cell 7, list _ [⟨#[97, 32, 98]⟩] (by decide) hb (by kernel_rfl)⟩
  · exact ⟨_, 1, 79, cell 8, cell 9, list _ [⟨#[97, 9]⟩] (by decide) hc (by kernel_rfl)⟩
  · exact ⟨_, 1, 79, cell 10, cell 11, list _ [⟨#[13]⟩] (by decide) hd (by kernel_rfl)⟩
  · exact ⟨_, 1, 79, cell 12, cell 13, list _ [⟨#[97, 10, 98]⟩] (by decide) he (by kernel_rfl)⟩
/-- A call of Number that is refused. -/
abbrev NumNo (full turn : Int) (w : World) : Prop := Calls Tryd.prog 13 #[.int .i64 full, .int .i64 turn, .bool true] w fun e w' => e = .returned (.tuple #[.string ⟨#[]⟩, .int .i64 2]) ∧ Below w.heap.size w w'
abbrev tabD (m : Nat) : Array Value := #[Value.int .i64 (-(m : Int)), Value.int .i64 0, Value.int .i64 (10001 + (m : Int)), Value.int .i64 0, Value.int .i64 1, Value.int .i64 (2 + (m : Int)), Value.int .i64 1, Value.int .i64 (-1 - (m : Int))]
theorem tabN_facts (w7 W8 : World) (m : Nat) (hg : Laid w7) (e : w7.alloc (Obj.cells (tabD m) 38) = W8) : Below w7.heap.size w7 W8 ∧ ∀ x : Int, 0 ≤ x → x < 4 → ∃ (f d : Int),
    W8.cell? ⟨w7.heap.size, x.toNat * 2, none⟩ = some (.int .i64 f) ∧ W8.cell? ⟨w7.heap.size, x.toNat * 2 + 1, none⟩ = some (.int .i64 d) ∧
    ∀ w, Below W8.heap.size W8 w → NumNo f d w := by
  obtain ⟨s8, h8, hB⟩ := alloc_facts e
  refine ⟨hB, ?_⟩
  have cell : ∀ i, W8.cell? ⟨w7.heap.size, i, none⟩ = (tabD m)[i]? := blk_cell h8
  have no : ∀ f d : Int, f < 1 ∨ 10000 < f ∨ (d ≠ 0 ∧ d ≠ 1) → ∀ w, Below W8.heap.size W8 w → NumNo f d w := by
    intro f d h w hb
    refine Number_calls f d true ⟨#[]⟩ 2 w ?_ (hg.below (hB.trans (hb.mono hB.size)))
    unfold numberF
    rw [if_pos h]
  intro x h0 h7
  have hx : x = 0 ∨ x = 1 ∨ x = 2 ∨ x = 3 := by omega
  rcases hx with rfl | rfl | rfl | rfl
  · exact ⟨-(m : Int), 0, cell 0, cell 1, no _ _ (.inl (by omega))⟩
  · exact ⟨10001 + (m : Int), 0, cell 2, cell 3, no _ _ (.inr (.inl (by omega)))⟩
  · exact ⟨1, 2 + (m : Int), cell 4, cell 5, no _ _ (.inr (.inr ⟨by omega, by omega⟩))⟩
  · exact ⟨1, -1 - (m : Int), cell 6, cell 7, no _ _ (.inr (.inr ⟨by omega, by omega⟩))⟩

theorem num_facts (m : Nat) (s : ByteArray) (hs : (⟨(Lib.itoa (1 + (m : Int) % 10000)).toArray⟩ : ByteArray) = s) :
    (∀ w, Laid w → ∀ b, Calls Tryd.prog 13 #[.int .i64 (1 + (m : Int) % 10000), .int .i64 0, .bool b] w fun e w' => e = .returned (.tuple #[.string (s ++ ⟨#[46]⟩), .int .i64 0]) ∧ Below w.heap.size w w') ∧
    (∀ w, Laid w → Calls Tryd.prog 13 #[.int .i64 (1 + (m : Int) % 10000), .int .i64 1, .bool true] w fun e w' => e = .returned (.tuple #[.string (s ++ ⟨#[46, 46, 46]⟩), .int .i64 0]) ∧ Below w.heap.size w w') ∧
    (∀ w, Laid w → Calls Tryd.prog 13 #[.int .i64 (1 + (m : Int) % 10000), .int .i64 1, .bool false] w fun e w' => e = .returned (.tuple #[.string ⟨#[]⟩, .int .i64 0]) ∧ Below w.heap.size w w') ∧
    (∀ w, Laid w → Calls Tryd.prog 14 #[.int .i64 (1 + (m : Int) % 10000)] w fun e w' => e = .returned (.string s) ∧ Below w.heap.size w w') ∧ s.size ≤ 21 := by
  have hr : 1 ≤ 1 + (m : Int) % 10000 ∧ 1 + (m : Int) % 10000 ≤ 10000 := by omega
  have hl := Lib.itoa_length_le (1 + (m : Int) % 10000) (by omega) (by omega)
  obtain ⟨f, hf⟩ : ∃ f, 1 + (m : Int) % 10000 = f := ⟨_, rfl⟩
  rw [hf] at hs hr hl ⊢
  have c : ¬ (f < 1 ∨ 10000 < f ∨ ((0 : Int) ≠ 0 ∧ (0 : Int) ≠ 1)) := by omega
  have c1 : ¬ (f < 1 ∨ 10000 < f ∨ ((1 : Int) ≠ 0 ∧ (1 : Int) ≠ 1)) := by omega
  refine ⟨fun w hg b => Number_calls f 0 b _ _ w ?_ hg, fun w hg => Number_calls f 1 true _ _ w ?_ hg, fun w hg => Number_calls f 1 false _ _ w ?_ hg, fun w hg => hs ▸ itoa_any f (by omega) (by omega) w hg, ?_⟩
  · unfold numberF; rw [if_neg c, if_pos rfl, hs]
  · unfold numberF; rw [if_neg c1, if_neg (by decide), if_pos rfl, hs]
  · unfold numberF; rw [if_neg c1, if_neg (by decide), if_neg (by decide)]
  · rw [← hs]; exact hl
set_option maxHeartbeats 8000000 in
set_option maxRecDepth 100000 in
theorem Refuses_calls (W : World) (m : Nat) (hm : m ≤ 65535) (A : Option Addr) (c : Nat) (l0 : List S46) (hC : Kd.C k46 W A l0.length l0) (hc : l0.length ≤ c) (hs : ∀ t ∈ l0, t.f1.size ≤ 9223372036854775807) (hg : Laid W) :
    Calls Tryd.prog 3 #[.int .u16 (m : Int), .slice A l0.length c] W fun e w' => e = .returned (.bool true) ∧ Below W.heap.size W w' := by
  obtain ⟨n, hn⟩ : ∃ n, (l0.take 10).length = n := ⟨_, rfl⟩
  have hn10 : n ≤ 10 := by rw [← hn, List.length_take]; omega
  have hnl : min (l0.length : Int) 10 = (n : Int) := by rw [← hn, List.length_take]; omega
  have hnl2 : n ≤ l0.length := by rw [← hn, List.length_take]; omega
  have hC2 : Kd.C k46 W A n (l0.take 10) := by
    rw [← hn]
    have h := Kd.C_take hC (m := n) hnl2
    have e : l0.take n = l0.take 10 := by
      rw [← hn, List.length_take]
      by_cases h10 : 10 ≤ l0.length
      · rw [Nat.min_eq_left h10]
      · rw [Nat.min_eq_right (by omega), List.take_of_length_le (Nat.le_refl _), List.take_of_length_le (by omega)]
    rw [e] at h
    exact h
  have hs2 : ∀ t ∈ l0.take 10, t.f1.size ≤ 9223372036854775807 := fun t ht => hs t (List.mem_of_mem_take ht)
  have HG := Lib.hid hg
  have HC := Lib.hid hC2
  have HS := Lib.hid hs2
  have HN := Lib.hid hn
  have hcap := hc
  clear hC hC2 hs hs2 hg hn hc

  have HPE := Lib.hid (fun w hb => by
    have hh := parseEnd w A c (l0.take 10) (by rw [HN.out]; exact Kd.C_below HC.out hb) (by rw [HN.out]; omega) (by rw [HN.out]; exact hn10) HS.out (HG.out.below hb)
    rw [HN.out] at hh
    exact hh : ∀ w, Below W.heap.size W w → Calls Tryd.prog 10 #[.slice A n c, .int .i64 (n : Int)] w fun e w' => ∃ (A : Option Addr) (c : Nat), e = .returned (.tuple #[.agg #[.slice A 0 c, .int .i64 0], .int .i64 0, .int .i64 16]) ∧ Below w.heap.size w w')
  have HTE := Lib.hid (fun w hb => by
    have hh := tagsEnd w A c (l0.take 10) (by rw [HN.out]; exact Kd.C_below HC.out hb) (by rw [HN.out]; omega) (by rw [HN.out]; exact hn10)
    rw [HN.out] at hh
    exact hh : ∀ w, Below W.heap.size W w → Calls Tryd.prog 11 #[.slice A n c, .int .i64 (n : Int)] w fun e w' => ∃ (A : Option Addr) (c : Nat), e = .returned (.tuple #[.slice A 0 c, .int .i64 (n : Int), .int .i64 0]) ∧ Below w.heap.size w w')
  clear HC HS HN
  go_enter Tryd.func3, Tryd.ntmps3
  go_wp2
  obtain ⟨W0, hW0⟩ : ∃ W0, (W.alloc (Obj.cells #[Value.int .i64 (-1 - (m : Int)), Value.int .i64 ((n : Int) + 1 + m), Value.int .i64 (-9223372036854775808), Value.int .i64 9223372036854775807] 3)) = W0 := ⟨_, rfl⟩
  have HA := Lib.hid (fun x h0 h4 => hW0 ▸ ats_cell W m n x h0 h4 : ∀ x : Int, 0 ≤ x → x < 4 → ∃ a, a ∈ ats m n ∧ W0.cell? ⟨W.heap.size, x.toNat, none⟩ = some (.int .i64 a))
  have HB0 := Lib.hid (show Below W.heap.size W W0 from hW0 ▸ below_alloc (Below.refl _ _) _)
  rw [hW0]
  clear hW0
  go_loopg [4, 49] 4 (fun kq v4 v49 w' => ∃ (x : Int), v4 = .bool false ∧ v49 = .int .i64 x ∧ Hid (0 ≤ x ∧ x + kq = 4 ∧ Below W0.heap.size W0 w'))
  case atStart => exact ⟨0, rfl, rfl, Lib.hid ⟨by decide, by decide, Below.refl _ _⟩⟩
  case round =>
    obtain ⟨x, rfl, rfl, HX⟩ := hrel
    cases gk with
    | zero =>
      have c1 : decide (x < 4) = false := decide_eq_false (by have := HX.out; omega)
      have HW1 := Lib.hid (HB0.out.trans (HX.out.2.2.mono HB0.out.size))
      clear HX HA HB0
      go_upto_region 12 with (first
        | (go_at_call 10; (with_reducible refine (HPE.out _ HW1.out).mono ?_); rintro e w4 ⟨A4, c4, rfl, hb4⟩; have HB4 := Lib.hid hb4; clear hb4)
        | ((with_reducible refine gate_dst (N := 14) rfl ?_); (try (refine gate_guard (by rfl) ?_; dsimp only)); refine box_event ?hg (N := 14) ?hd (cs := #[.slice none 0 0, .int .i64 0]) (t := 27) ?hr ?_; (case hd => rfl); (case hg => rfl); (case hr => first | (go_simp; done) | (go_simp; rfl)); intro gb hg5 w5 hbox hb; have hz50 : w5.cell? ⟨gb, 0, none⟩ = some (.slice none 0 0) := (blk_cell hbox 0).trans rfl; have hzf50 := blk_frozen hbox 0; have hz51 : w5.cell? ⟨gb, 1, none⟩ = some (.int .i64 0) := (blk_cell hbox 1).trans rfl; have hzf51 := blk_frozen hbox 1; have HBX5 := Lib.hid hbox; have HBB5 := Lib.hid hb; have HGB5 := Lib.hid hg5; clear hg5 hbox hb))
      obtain ⟨w6, hw6⟩ : ∃ w6, ((w5.setCell ⟨gb, 0, none⟩ (.slice A4 0 c4)).setCell ⟨gb, 1, none⟩ (.int .i64 0)) = w6 := ⟨_, rfl⟩
      have B4 := HW1.out.trans (HB4.out.mono HW1.out.size)
      have B5 := B4.trans (HBB5.out.mono B4.size)
      have hgg : W.heap.size ≤ gb := by rw [HGB5.out]; exact B4.size
      have HW6 := Lib.hid (show Below W.heap.size W w6 from hw6 ▸ below_set (below_set B5 hgg) hgg)
      rw [hw6]
      clear hw6 hz50 hz51 hzf50 hzf51 HBX5 HBB5 HGB5 B4 B5 hgg HB4 HW1
      go_upto_region 13 with (first
        | (go_at_call 11; (with_reducible refine (HTE.out _ HW6.out).mono ?_); rintro e w7 ⟨A7, c7, rfl, hb7⟩; have HB7 := Lib.hid hb7; clear hb7))
      have HW7 := Lib.hid (HW6.out.trans (HB7.out.mono HW6.out.size))
      clear HW6 HB7 HPE HTE
      go_upto_region 16 with (fail)
      obtain ⟨wa, ewa⟩ : ∃ w_, w7.alloc (Obj.cells #[Value.string ⟨#[97]⟩, Value.string ⟨#[]⟩] 9) = w_ := ⟨_, rfl⟩
      rw [ewa]
      obtain ⟨wb, ewb⟩ : ∃ w_, wa.alloc (Obj.cells #[Value.string ⟨#[97, 32, 98]⟩] 9) = w_ := ⟨_, rfl⟩
      rw [ewb]
      obtain ⟨wc, ewc⟩ : ∃ w_, wb.alloc (Obj.cells #[Value.string ⟨#[97, 9]⟩] 9) = w_ := ⟨_, rfl⟩
      rw [ewc]
      obtain ⟨wd, ewd⟩ : ∃ w_, wc.alloc (Obj.cells #[Value.string ⟨#[13]⟩] 9) = w_ := ⟨_, rfl⟩
      rw [ewd]
      obtain ⟨we, ewe⟩ : ∃ w_, wd.alloc (Obj.cells #[Value.string ⟨#[97, 10, 98]⟩] 9) = w_ := ⟨_, rfl⟩
      rw [ewe]
      obtain ⟨W8, eW8⟩ : ∃ w_, we.alloc (Obj.cells (tabC w7 m) 34) = w_ := ⟨_, rfl⟩
      unfold tabC at eW8
      rw [eW8]
      obtain ⟨hB8, hT8⟩ := tabW_facts w7 wa wb wc wd we W8 m (HG.out.below HW7.out) ewa ewb ewc ewd ewe eW8
      obtain ⟨B8, hB8s⟩ : ∃ B8, w7.heap.size + 1 + 1 + 1 + 1 + 1 = B8 := ⟨_, rfl⟩
      rw [hB8s] at hT8
      have HT8 := Lib.hid hT8
      have HW8 := Lib.hid (HW7.out.trans (hB8.mono HW7.out.size))
      try rw [hB8s]
      clear hT8 hB8 hB8s ewa ewb ewc ewd ewe eW8 HW7
      go_loopg [4, 144] 7 (fun kq v4 v144 w' => ∃ (x : Int), v4 = .bool false ∧ v144 = .int .i64 x ∧ Hid (0 ≤ x ∧ x + kq = 7 ∧ Below W8.heap.size W8 w'))
      case atStart => exact ⟨0, rfl, rfl, Lib.hid ⟨by decide, by decide, Below.refl _ _⟩⟩
      case round =>
        obtain ⟨x, rfl, rfl, HX⟩ := hrel
        cases gk with
        | zero =>
          have c1 : decide (x < 7) = false := decide_eq_false (by have := HX.out; omega)
          have HW1 := Lib.hid (HW8.out.trans (HX.out.2.2.mono HW8.out.size))
          clear HX HT8 HW8
          go_upto_region 23 with (fail)
          obtain ⟨W9, eW9⟩ : ∃ w_, wr.alloc (Obj.cells (tabD m) 38) = w_ := ⟨_, rfl⟩
          obtain ⟨B9, hB9s⟩ : ∃ B9, wr.heap.size = B9 := ⟨_, rfl⟩
          obtain ⟨hB9, hT9⟩ := tabN_facts wr W9 m (HG.out.below HW1.out) eW9
          unfold tabD at eW9
          rw [eW9]
          have HW9 := Lib.hid (HW1.out.trans (hB9.mono HW1.out.size))
          rw [hB9s] at hT9
          try rw [hB9s]
          have HT9 := Lib.hid hT9
          clear hT9 hB9 hB9s eW9 HW1
          go_loopg [4, 177] 4 (fun kq v4 v177 w' => ∃ (x : Int), v4 = .bool false ∧ v177 = .int .i64 x ∧ Hid (0 ≤ x ∧ x + kq = 4 ∧ Below W9.heap.size W9 w'))
          case atStart => exact ⟨0, rfl, rfl, Lib.hid ⟨by decide, by decide, Below.refl _ _⟩⟩
          case round =>
            obtain ⟨x, rfl, rfl, HX⟩ := hrel
            cases gk with
            | zero =>
              have c1 : decide (x < 4) = false := decide_eq_false (by have := HX.out; omega)
              have HW1 := Lib.hid (HW9.out.trans (HX.out.2.2.mono HW9.out.size))
              clear HX HT9 HW9
              go_upto_region 29 with (fail)
              obtain ⟨s, hs⟩ : ∃ s : ByteArray, (⟨(Lib.itoa (1 + (m : Int) % 10000)).toArray⟩ : ByteArray) = s := ⟨_, rfl⟩
              obtain ⟨h1, h2, h3, h4, h5⟩ := num_facts m s hs
              have H1 := Lib.hid h1
              have H2 := Lib.hid h2
              have H3 := Lib.hid h3
              have H4 := Lib.hid h4
              clear h1 h2 h3 h4 hs
              have k1 : (9223372036854775807 < s.size + 1) = False := eq_false (by omega)
              have k3 : (9223372036854775807 < s.size + 3) = False := eq_false (by omega)
              clear h5
              go_upto_region 30 with (first
                | (go_at_call 13; (with_reducible refine (H1.out _ (HG.out.below HW1.out) _).mono ?_); rintro e w1 ⟨rfl, hb⟩; have HW2 := Lib.hid (HW1.out.trans (hb.mono HW1.out.size)); clear hb HW1))
              go_upto_region 31 with (first
                | (go_at_call 13; (with_reducible refine (H2.out _ (HG.out.below HW2.out)).mono ?_); rintro e w2 ⟨rfl, hb⟩; have HW3 := Lib.hid (HW2.out.trans (hb.mono HW2.out.size)); clear hb HW2))
              go_upto_region 32 with (first
                | (go_at_call 13; (with_reducible refine (H3.out _ (HG.out.below HW3.out)).mono ?_); rintro e w3 ⟨rfl, hb⟩; have HW4 := Lib.hid (HW3.out.trans (hb.mono HW3.out.size)); clear hb HW3))
              go_upto_region 33 with (first
                | (go_at_call 14; (with_reducible refine (H4.out _ (HG.out.below HW4.out)).mono ?_); rintro e w4 ⟨rfl, hb⟩; have HW5 := Lib.hid (HW4.out.trans (hb.mono HW4.out.size)); clear hb HW4))
              go_wp2_with (first
                | (go_at_call 15; (with_reducible refine (works_calls _ (HG.out.below HW5.out)).mono ?_); rintro e w5 ⟨rfl, hb⟩; have HW6 := Lib.hid (HW5.out.trans (hb.mono HW5.out.size)); clear hb HW5))
              go_ret
              exact ⟨rfl, HW6.out⟩
            | succ k1 =>
              have c1 : decide (x < 4) = true := decide_eq_true (by have := HX.out; omega)
              have p1 : (0 ≤ x) = True := eq_true HX.out.1
              have p2 : (x < 4) = True := eq_true (by have := HX.out; omega)
              obtain ⟨fx, d, hc0, hc1, hno⟩ := HT9.out x HX.out.1 (by have := HX.out; omega)
              replace hc0 := (HX.out.2.2.cell (World.block_lt_of_cell? W9 _ hc0)).trans hc0
              replace hc1 := (HX.out.2.2.cell (World.block_lt_of_cell? W9 _ hc1)).trans hc1
              have HNO := Lib.hid hno
              clear hno
              go_upto_region 25 with (((with_reducible refine gate_dst (N := 25) rfl ?_); (try (refine gate_guard (by rfl) ?_; dsimp only)); refine box_event ?hg (N := 25) ?hd (cs := #[.int .i64 0, .int .i64 0]) (t := 38) ?hr ?_; (case hd => rfl); (case hg => rfl); (case hr => first | (go_simp; done) | (go_simp; rfl)); intro gb hg5 w5 hbox hb; have hz50 : w5.cell? ⟨gb, 0, none⟩ = some (.int .i64 0) := (blk_cell hbox 0).trans rfl; have hzf50 := blk_frozen hbox 0; have hz51 : w5.cell? ⟨gb, 1, none⟩ = some (.int .i64 0) := (blk_cell hbox 1).trans rfl; have hzf51 := blk_frozen hbox 1; have HBX5 := Lib.hid hbox; have HBB5 := Lib.hid hb; have HGB5 := Lib.hid hg5; clear hg5 hbox hb))
              obtain ⟨w6, hw6⟩ : ∃ w6, ((w5.setCell ⟨gb, 0, none⟩ (.int .i64 fx)).setCell ⟨gb, 1, none⟩ (.int .i64 d)) = w6 := ⟨_, rfl⟩
              have B1 := HX.out.2.2
              have B5 := B1.trans (HBB5.out.mono B1.size)
              have hgg : W9.heap.size ≤ gb := by rw [HGB5.out]; exact B1.size
              have HB6 := Lib.hid (show Below W9.heap.size W9 w6 from hw6 ▸ below_set (below_set B5 hgg) hgg)
              have hbx6 := (show w6.heap[gb]? = some (.cells #[.int .i64 fx, .int .i64 d] 38 (0, 0)) from hw6 ▸ blk_put (blk_put HBX5.out 0 _ rfl) 1 _ rfl)
              have hb0 : w6.cell? ⟨gb, 0, none⟩ = some (.int .i64 fx) := (blk_cell hbx6 0).trans rfl
              have hb1 : w6.cell? ⟨gb, 1, none⟩ = some (.int .i64 d) := (blk_cell hbx6 1).trans rfl
              rw [hw6]
              clear hw6 hz50 hz51 hzf50 hzf51 HBX5 HBB5 HGB5 B1 B5 hgg hc0 hc1 hbx6
              go_upto_region 26 with (first
                | (go_at_call 13; (with_reducible refine (HNO.out _ HB6.out).mono ?_); rintro e w7 ⟨rfl, hb7⟩; have HB7 := Lib.hid hb7; clear hb7))
              have HB8 := Lib.hid (HB6.out.trans (HB7.out.mono HB6.out.size))
              clear HB6 HB7 HNO hb0 hb1
              go_wp2
              go_roundg k1
              case measure => omega
              case rel => exact ⟨wrap64 (x + 1), rfl, rfl, Lib.hid (by rw [IntWalk.wrap64_in _ (by have := HX.out; omega)]; exact ⟨by have := HX.out; omega, by have := HX.out; omega, HB8.out⟩)⟩
        | succ k1 =>
          have c1 : decide (x < 7) = true := decide_eq_true (by have := HX.out; omega)
          have p1 : (0 ≤ x) = True := eq_true HX.out.1
          have p2 : (x < 7) = True := eq_true (by have := HX.out; omega)
          obtain ⟨Ax, kx, d, hc0, hc1, hno⟩ := HT8.out x HX.out.1 (by have := HX.out; omega)
          replace hc0 := (HX.out.2.2.cell (World.block_lt_of_cell? W8 _ hc0)).trans hc0
          replace hc1 := (HX.out.2.2.cell (World.block_lt_of_cell? W8 _ hc1)).trans hc1
          have HNO := Lib.hid hno
          clear hno
          go_upto_region 18 with (((with_reducible refine gate_dst (N := 21) rfl ?_); (try (refine gate_guard (by rfl) ?_; dsimp only)); refine box_event ?hg (N := 21) ?hd (cs := #[.slice none 0 0, .int .i64 0]) (t := 34) ?hr ?_; (case hd => rfl); (case hg => rfl); (case hr => first | (go_simp; done) | (go_simp; rfl)); intro gb hg5 w5 hbox hb; have hz50 : w5.cell? ⟨gb, 0, none⟩ = some (.slice none 0 0) := (blk_cell hbox 0).trans rfl; have hzf50 := blk_frozen hbox 0; have hz51 : w5.cell? ⟨gb, 1, none⟩ = some (.int .i64 0) := (blk_cell hbox 1).trans rfl; have hzf51 := blk_frozen hbox 1; have HBX5 := Lib.hid hbox; have HBB5 := Lib.hid hb; have HGB5 := Lib.hid hg5; clear hg5 hbox hb))
          obtain ⟨w6, hw6⟩ : ∃ w6, ((w5.setCell ⟨gb, 0, none⟩ (.slice Ax kx kx)).setCell ⟨gb, 1, none⟩ (.int .i64 d)) = w6 := ⟨_, rfl⟩
          have B1 := HX.out.2.2
          have B5 := B1.trans (HBB5.out.mono B1.size)
          have hgg : W8.heap.size ≤ gb := by rw [HGB5.out]; exact B1.size
          have HB6 := Lib.hid (show Below W8.heap.size W8 w6 from hw6 ▸ below_set (below_set B5 hgg) hgg)
          have hbx6 := (show w6.heap[gb]? = some (.cells #[.slice Ax kx kx, .int .i64 d] 34 (0, 0)) from hw6 ▸ blk_put (blk_put HBX5.out 0 _ rfl) 1 _ rfl)
          have hb0 : w6.cell? ⟨gb, 0, none⟩ = some (.slice Ax kx kx) := (blk_cell hbx6 0).trans rfl
          have hb1 : w6.cell? ⟨gb, 1, none⟩ = some (.int .i64 d) := (blk_cell hbx6 1).trans rfl
          rw [hw6]
          clear hw6 hz50 hz51 hzf50 hzf51 HBX5 HBB5 HGB5 B1 B5 hgg hc0 hc1 hbx6
          go_upto_region 19 with (first
            | (go_at_call 12; (with_reducible refine (HNO.out _ HB6.out).mono ?_); rintro e w7 ⟨rfl, hb7⟩; have HB7 := Lib.hid hb7; clear hb7))
          have HB8 := Lib.hid (HB6.out.trans (HB7.out.mono HB6.out.size))
          clear HB6 HB7 HNO hb0 hb1
          go_wp2
          go_roundg k1
          case measure => omega
          case rel => exact ⟨wrap64 (x + 1), rfl, rfl, Lib.hid (by rw [IntWalk.wrap64_in _ (by have := HX.out; omega)]; exact ⟨by have := HX.out; omega, by have := HX.out; omega, HB8.out⟩)⟩
    | succ k1 =>
      have c1 : decide (x < 4) = true := decide_eq_true (by have := HX.out; omega)
      have p1 : (0 ≤ x) = True := eq_true HX.out.1
      have p2 : (x < 4) = True := eq_true (by have := HX.out; omega)
      obtain ⟨a, ha, hca⟩ := HA.out x HX.out.1 (by have := HX.out; omega)
      replace hca := (HX.out.2.2.cell (World.block_lt_of_cell? W0 _ hca)).trans hca
      have HO := Lib.hid (ats_out m n hm hn10 a ha)
      clear ha
      go_upto_region 7 with (first
        | (go_at_call 10; (with_reducible refine (parseRange _ A n c a HO.out).mono ?_); rintro e w4 ⟨A4, c4, rfl, hb4⟩; have HB4 := Lib.hid hb4; clear hb4)
        | ((with_reducible refine gate_dst (N := 8) rfl ?_); (try (refine gate_guard (by rfl) ?_; dsimp only)); refine box_event ?hg (N := 8) ?hd (cs := #[.slice none 0 0, .int .i64 0]) (t := 27) ?hr ?_; (case hd => rfl); (case hg => rfl); (case hr => first | (go_simp; done) | (go_simp; rfl)); intro gb hg5 w5 hbox hb; have hz50 : w5.cell? ⟨gb, 0, none⟩ = some (.slice none 0 0) := (blk_cell hbox 0).trans rfl; have hzf50 := blk_frozen hbox 0; have hz51 : w5.cell? ⟨gb, 1, none⟩ = some (.int .i64 0) := (blk_cell hbox 1).trans rfl; have hzf51 := blk_frozen hbox 1; have HBX5 := Lib.hid hbox; have HBB5 := Lib.hid hb; have HGB5 := Lib.hid hg5; clear hg5 hbox hb))
      have B1 := HX.out.2.2
      have B4 := B1.trans (HB4.out.mono B1.size)
      have B5 := B4.trans (HBB5.out.mono B4.size)
      have hgg : W0.heap.size ≤ gb := by rw [HGB5.out]; exact B4.size
      obtain ⟨w6, hw6⟩ : ∃ w6, ((w5.setCell ⟨gb, 0, none⟩ (.slice A4 0 c4)).setCell ⟨gb, 1, none⟩ (.int .i64 0)) = w6 := ⟨_, rfl⟩
      have HB6 := Lib.hid (show Below W0.heap.size W0 w6 from hw6 ▸ below_set (below_set B5 hgg) hgg)
      have HBX6 := Lib.hid (show w6.heap[gb]? = some (.cells #[.slice A4 0 c4, .int .i64 0] 27 (0, 0)) from hw6 ▸ blk_put (blk_put HBX5.out 0 _ rfl) 1 _ rfl)
      rw [hw6]
      clear hw6 hz50 hz51 hzf50 hzf51 HBX5 HBB5 HGB5 B1 B4 B5 hgg HB4
      go_upto_region 8 with (first
        | (go_at_call 11; (with_reducible refine (tagsRange _ A n c a HO.out).mono ?_); rintro e w7 ⟨A7, c7, rfl, hb7⟩; have HB7 := Lib.hid hb7; clear hb7))
      have hc70 : w7.cell? ⟨gb, 0, none⟩ = some (.slice A4 0 c4) := (blk_cell (blk_below HBX6.out HB7.out) 0).trans rfl
      have HB8 := Lib.hid (HB6.out.trans (HB7.out.mono HB6.out.size))
      clear HB6 HB7 HBX6 hca HO
      go_wp2
      go_roundg k1
      case measure => omega
      case rel => exact ⟨wrap64 (x + 1), rfl, rfl, Lib.hid (by rw [IntWalk.wrap64_in _ (by have := HX.out; omega)]; exact ⟨by have := HX.out; omega, by have := HX.out; omega, HB8.out⟩)⟩
end Go.Proofs.YtlpoglkddknedaaDoor.H

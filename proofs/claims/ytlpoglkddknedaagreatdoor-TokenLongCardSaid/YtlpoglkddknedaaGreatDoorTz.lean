/- Piece.Token walked: the words of all kinds. Conditions: as the theorem says. · Piece.Token walked: strings, whose sign is quoted. Conditions: as the theorem says. · Piece.Token walked: marks and single signs. Conditions: as the theorem says. · Piece.Token walked: the single signs. Conditions: as the theorem says. · Piece.Token walked: symbols. Conditions: as the theorem says. · Piece.Token walked: glyphs. Conditions: as the theorem says. · Piece.Token walked: comments. Conditions: as the theorem says. · Piece.Token at whatever piece: what it answers. Conditions: the piece's numbers are bytes, the list's length is at most 2^47 - 4096, the library's number lies at cell 0. · tempolaw23.text: what lies in memory while it runs. No walk in sight. · tempolaw23.text walked: the string of pieces, and their tokens. Conditions: as the theorem says. -/
import Derived.Test.YtlpoglkddknedaaGreatDoorRz
import Derived.Test.YtlpoglkddknedaaGreatDoorHl
import Derived.IntWalk
import Derived.Lib.SplitLaws
namespace Go.Proofs.YtlpoglkddknedaaGreatDoor.R
open Go.RowKit Go.Lib Go.Proofs.YtlpoglkddknedaaGreatDoor.T Go.Proofs.YtlpoglkddknedaaGreatDoor.H Go.Proofs.YtlpoglkddknedaaGreatDoorW.PrintWords Go.Proofs.YtlpoglkddknedaaGreatDoorW.PrintLast
set_option linter.unusedVariables false
set_option linter.unusedSimpArgs false
theorem res13 {tm : Array Value} {w : World} {g : Nat} {k z : Int} {t s gp : ByteArray} (h2 : tm.getD 2 undef = .pointer (some ⟨g, 0, none⟩)) (h3 : tm.getD 3 undef = .string s) (h4 : tm.getD 4 undef = .string gp) (hg : w.heap[g]? = some (.cells #[.int .i64 k, .string t, .int .i64 z] 31 (0, 0))) :
    (results Tryz.f13 tm).run Tryz.prog w = .ok (.tuple #[.agg #[.int .i64 k, .string t, .int .i64 z], .string s, .string gp]) w := by
  have h2' : tm[2]?.getD undef = .pointer (some ⟨g, 0, none⟩) := by simpa using h2
  have h3' : tm[3]?.getD undef = .string s := by simpa using h3
  have h4' : tm[4]?.getD undef = .string gp := by simpa using h4
  have hr : Tryz.f13.results = #[.cell 2 31, .tmp 3, .tmp 4] := rfl
  have hl := run_loadVar_row (P := Tryz.prog) w g 31 31 #[.int .i64 k, .string t, .int .i64 z] (0, 0) _ hg Tryz.underlying31 rfl (by kernel_rfl)
  simp [results, hr, h2', h3', h4', asAddr, hl]
def gaps : List ByteArray := [⟨#[32]⟩, ⟨#[10]⟩, ⟨#[9]⟩, ⟨#[13, 10]⟩, ⟨#[32, 32]⟩, ⟨#[10, 37, 112, 97, 115, 115, 101, 100, 32, 111, 118, 101, 114, 32, 34, 40, 10]⟩]
def gapOf (g : Int) : ByteArray := gaps.getD (g % 6).toNat ⟨#[]⟩
def marks : List ByteArray := [⟨#[33]⟩, ⟨#[63]⟩, ⟨#[33, 33]⟩, ⟨#[63, 63]⟩, ⟨#[33, 63]⟩, ⟨#[63, 33]⟩]
def markOf (g : Int) : ByteArray := marks.getD (g % 6).toNat ⟨#[]⟩
theorem six_cell (w : World) (l : List ByteArray) (hl : l.length = 6) (x : Int) : (w.alloc (.cells (l.map Value.string).toArray 9)).cell? ⟨w.heap.size, (x % 6).toNat, none⟩ = some (.string (l.getD (x % 6).toNat ⟨#[]⟩)) := by
  have h : (x % 6).toNat < l.length := by omega
  rw [World.cell?_alloc_new, List.getElem?_toArray, List.getElem?_map, List.getD_eq_getElem?_getD, List.getElem?_eq_getElem h]
  rfl
/-- What a call of Token answers. -/
def TokA (w : World) (kd n gp : Int) (A : Option Addr) (len c : Nat) (k : Int) (text src gap : ByteArray) : Prop :=
  Calls Tryz.prog 13 #[.agg #[.int .u8 kd, .int .u8 n, .int .u8 gp, .slice A len c]] w fun e w' => e = .returned (.tuple #[.agg #[.int .i64 k, .string text, .int .i64 0], .string src, .string gap]) ∧ Below w.heap.size w w'
/-- The boxes of a call of Token. -/
structure TB (W : World) (b1 b2 b7 : Nat) (pc : Array Value) (k : Int) (t : ByteArray) (w : World) : Prop where
  h1 : w.heap[b1]? = some (.cells pc 46 (0, 0))
  h2 : w.heap[b2]? = some (.cells #[.int .i64 0, .string ⟨#[]⟩, .int .i64 0] 31 (0, 0))
  h7 : w.heap[b7]? = some (.cells #[.int .i64 k, .string t, .int .i64 0] 31 (0, 0))
  n12 : b1 ≠ b2
  n17 : b1 ≠ b7
  n27 : b2 ≠ b7
  l1 : W.heap.size ≤ b1
  l2 : W.heap.size ≤ b2
  l7 : W.heap.size ≤ b7
  bl : Below W.heap.size W w
section
variable {W w w1 : World} {b1 b2 b7 : Nat} {pc : Array Value} {k : Int} {t : ByteArray}
theorem TB.below (h : TB W b1 b2 b7 pc k t w) (hb : Below w.heap.size w w1) : TB W b1 b2 b7 pc k t w1 where
  h1 := blk_below h.h1 hb
  h2 := blk_below h.h2 hb
  h7 := blk_below h.h7 hb
  n12 := h.n12
  n17 := h.n17
  n27 := h.n27
  l1 := h.l1
  l2 := h.l2
  l7 := h.l7
  bl := h.bl.trans (hb.mono h.bl.size)
theorem TB.text (h : TB W b1 b2 b7 pc k t w) (u : ByteArray) : TB W b1 b2 b7 pc k u (w.setCell ⟨b7, 1, none⟩ (.string u)) where
  h1 := blk_far h.h1 h.n17 _
  h2 := blk_far h.h2 h.n27 _
  h7 := blk_put h.h7 1 _ rfl
  n12 := h.n12
  n17 := h.n17
  n27 := h.n27
  l1 := h.l1
  l2 := h.l2
  l7 := h.l7
  bl := h.bl.setCell (p := ⟨b7, 1, none⟩) h.l7 _
/-- The three stores of the result. -/
abbrev laid3 (w : World) (b : Nat) (k : Int) (t : ByteArray) : World := ((w.setCell ⟨b, 0, none⟩ (.int .i64 k)).setCell ⟨b, 1, none⟩ (.string t)).setCell ⟨b, 2, none⟩ (.int .i64 0)
theorem TB.laid (h : TB W b1 b2 b7 pc k t w) : (laid3 w b2 k t).heap[b2]? = some (.cells #[.int .i64 k, .string t, .int .i64 0] 31 (0, 0)) := blk_put (blk_put (blk_put h.h2 0 _ rfl) 1 _ rfl) 2 _ rfl
theorem TB.laid7 (h : TB W b1 b2 b7 pc k t w) : (laid3 w b2 k t).heap[b7]? = some (.cells #[.int .i64 k, .string t, .int .i64 0] 31 (0, 0)) := blk_far (blk_far (blk_far h.h7 (Ne.symm h.n27) _) (Ne.symm h.n27) _) (Ne.symm h.n27) _
theorem TB.laidB (h : TB W b1 b2 b7 pc k t w) : Below W.heap.size W (laid3 w b2 k t) := ((h.bl.setCell (p := ⟨b2, 0, none⟩) h.l2 _).setCell (p := ⟨b2, 1, none⟩) h.l2 _).setCell (p := ⟨b2, 2, none⟩) h.l2 _
theorem TB.c7 (h : TB W b1 b2 b7 pc k t w) : w.cell? ⟨b7, 0, none⟩ = some (.int .i64 k) ∧ w.cell? ⟨b7, 1, none⟩ = some (.string t) ∧ w.cell? ⟨b7, 2, none⟩ = some (.int .i64 0) := ⟨(blk_cell h.h7 0).trans rfl, (blk_cell h.h7 1).trans rfl, (blk_cell h.h7 2).trans rfl⟩
theorem TB.c2 (h : TB W b1 b2 b7 pc k t w) : (w.cell? ⟨b2, 0, none⟩ = some (.int .i64 0) ∧ w.cell? ⟨b2, 1, none⟩ = some (.string ⟨#[]⟩) ∧ w.cell? ⟨b2, 2, none⟩ = some (.int .i64 0)) ∧ w.frozen? ⟨b2, 0, none⟩ = false ∧ w.frozen? ⟨b2, 1, none⟩ = false ∧ w.frozen? ⟨b2, 2, none⟩ = false :=
  ⟨⟨(blk_cell h.h2 0).trans rfl, (blk_cell h.h2 1).trans rfl, (blk_cell h.h2 2).trans rfl⟩, blk_frozen h.h2 0, blk_frozen h.h2 1, blk_frozen h.h2 2⟩
end
theorem lit4 (w : World) : Kd.C Kd.string (w.alloc (.cells #[.string ⟨#[92]⟩, .string ⟨#[92, 92]⟩, .string ⟨#[34]⟩, .string ⟨#[92, 34]⟩] 9)) (some ⟨w.heap.size, 0, none⟩) 4 strs4 := by
  refine ⟨rfl, by decide, fun _ => ⟨_, rfl, fun j p hj => ⟨[.string p], rfl, rfl, fun i u hu => ?_⟩⟩⟩
  rw [show Kd.string.sz = 1 from rfl, Nat.mul_one, Addr.add_lit, Nat.zero_add, World.cell?_alloc_new]
  match i, hu with
  | 0, hu =>
    obtain rfl := Option.some.inj hu
    match j, hj with
    | 0, hj => obtain rfl := Option.some.inj hj; rfl
    | 1, hj => obtain rfl := Option.some.inj hj; rfl
    | 2, hj => obtain rfl := Option.some.inj hj; rfl
    | 3, hj => obtain rfl := Option.some.inj hj; rfl
/-- The prefix of a call of Token: the boxes. -/
theorem TB.start (W : World) (pc : Array Value) (k : Int) : TB W W.heap.size (W.heap.size + 1) (W.heap.size + 1 + 1 + 1) pc k ⟨#[]⟩ ((((W.alloc (.cells pc 46)).alloc (.cells #[.int .i64 0, .string ⟨#[]⟩, .int .i64 0] 31)).alloc (.cells (gaps.map Value.string).toArray 9)).alloc (.cells #[.int .i64 k, .string ⟨#[]⟩, .int .i64 0] 31)) where
  h1 := blk_alloc (blk_alloc (blk_alloc (blk_new W _) _) _) _
  h2 := by
    have h := blk_new (W.alloc (.cells pc 46)) (.cells #[.int .i64 0, .string ⟨#[]⟩, .int .i64 0] 31)
    rw [World.size_alloc] at h
    exact blk_alloc (blk_alloc h _) _
  h7 := by
    have h := blk_new (((W.alloc (.cells pc 46)).alloc (.cells #[.int .i64 0, .string ⟨#[]⟩, .int .i64 0] 31)).alloc (.cells (gaps.map Value.string).toArray 9)) (.cells #[.int .i64 k, .string ⟨#[]⟩, .int .i64 0] 31)
    simp only [World.size_alloc] at h
    exact h
  n12 := by omega
  n17 := by omega
  n27 := by omega
  l1 := by omega
  l2 := by omega
  l7 := by omega
  bl := (((((Below.refl _ _).alloc (Nat.le_refl _) _).alloc (by simp only [World.size_alloc]; omega) _).alloc (by simp only [World.size_alloc]; omega) _).alloc (by simp only [World.size_alloc]; omega) _)
end Go.Proofs.YtlpoglkddknedaaGreatDoor.R

namespace Go.Proofs.YtlpoglkddknedaaGreatDoor.R
open Go.RowKit Go.Lib Go.Proofs.YtlpoglkddknedaaGreatDoor.T Go.Proofs.YtlpoglkddknedaaGreatDoor.H Go.Proofs.YtlpoglkddknedaaGreatDoorW.PrintWords Go.Proofs.YtlpoglkddknedaaGreatDoorW.PrintLast
set_option linter.unusedVariables false
set_option linter.unusedSimpArgs false
set_option maxRecDepth 100000 in
set_option maxHeartbeats 4000000 in
theorem tok_str (W : World) (kd n gp : Int) (A : Option Addr) (c : Nat) (B : List Int) (hB : Kd.C (Kd.int .u8) W A B.length B) (hc : B.length ≤ c) (hBr : ∀ x ∈ B, 0 ≤ x ∧ x ≤ 255) (hk : 0 ≤ kd ∧ kd ≤ 255) (hn : 0 ≤ n ∧ n ≤ 255) (hg : 0 ≤ gp ∧ gp ≤ 255) (hkd : kd % 11 = 0) (text : ByteArray) (htx : lettersF B printableS 255 = some text) (hts : text.size ≤ 255) :
    TokA W kd n gp A B.length c 1 text (⟨#[34]⟩ ++ ⟨(replL text.data.toList).toArray⟩ ++ ⟨#[34]⟩) (gapOf gp) := by
  unfold TokA
  obtain ⟨ln, hln⟩ : ∃ ln, B.length = ln := ⟨_, rfl⟩
  obtain ⟨ps, hps⟩ : ∃ ps, printableS = ps := ⟨_, rfl⟩
  have HLT := Aside0.mk (show ∀ w, Below W.heap.size W w → Calls Tryz.prog 26 #[.slice A ln c, .string ps, .int .i64 255] w fun e w' => e = .returned (.string text) ∧ Below w.heap.size w w' from fun w hb => by
    rw [← hln, ← hps]; exact letters_calls A c B printableS 255 text w (Kd.C_below hB hb) hc htx)
  have HPR := Aside0.mk (show ∀ w, Calls Tryz.prog 27 #[] w fun e w' => e = .returned (.string ps) ∧ Below w.heap.size w w' from fun w => by rw [← hps]; exact printable_calls w)
  have HTS := Aside0.mk hts
  obtain ⟨rp, hrp⟩ : ∃ rp, (⟨(replL text.data.toList).toArray⟩ : ByteArray) = rp := ⟨_, rfl⟩
  have HQ := Aside0.mk (show ∀ w g, NR w g → Calls Tryz.prog 29 #[.pointer (some ⟨g, 0, none⟩), .string text] w fun e w' => e = .returned (.string rp) ∧ ∀ B W0, B ≤ g → Below B W0 w → Below B W0 w' from fun w g h => by rw [← hrp]; exact quote_call w g h text (by omega))
  have hrs : rp.size ≤ 1000 := by
    have h1 : rp.size = (replL text.data.toList).length := by rw [← hrp]; exact List.size_toArray
    have h2 := replL_len text.data.toList
    have h3 := ex_le text.data.toList
    have h4 : text.data.toList.length = text.size := Array.length_toList
    omega
  have pr1 : (9223372036854775807 < 1 + rp.size) = False := eq_false (by omega)
  have pr2 : (9223372036854775807 < 1 + rp.size + 1) = False := eq_false (by omega)
  rw [hln, hrp]
  clear htx hts hps hrp hln
  have hk0 := hk.1
  have hk1 := hk.2
  have hn0 := hn.1
  have hn1 := hn.2
  have hg0 := hg.1
  have hg1 := hg.2
  have h60 : 0 ≤ gp % 6 := by omega
  have h66 : gp % 6 < 6 := by omega
  have hsix := six_cell ((W.alloc (.cells #[.int .u8 kd, .int .u8 n, .int .u8 gp, .slice A ln c] 46)).alloc (.cells #[.int .i64 0, .string ⟨#[]⟩, .int .i64 0] 31)) gaps rfl gp
  obtain ⟨gs, hgs⟩ : ∃ gs, gapOf gp = gs := ⟨_, rfl⟩
  rw [show gaps.getD (gp % 6).toNat ⟨#[]⟩ = gs from hgs] at hsix
  simp only [gaps, List.map_cons, List.map_nil, World.size_alloc] at hsix
  have HGS := Aside0.mk hgs
  clear hB hc hBr hk hn hg hgs
  go_enter Tryz.func13, Tryz.ntmps13
  go_upto_region 4 with (fail)
  have HT := Aside0.mk (TB.start W #[.int .u8 kd, .int .u8 n, .int .u8 gp, .slice A ln c] 1)
  simp only [gaps, List.map_cons, List.map_nil] at HT
  obtain ⟨b1, hb1⟩ : ∃ b, W.heap.size = b := ⟨_, rfl⟩
  obtain ⟨b2, hb2⟩ : ∃ b, W.heap.size + 1 = b := ⟨_, rfl⟩
  obtain ⟨b7, hb7⟩ : ∃ b, W.heap.size + 1 + 1 + 1 = b := ⟨_, rfl⟩
  obtain ⟨w4, hw4⟩ : ∃ w, (((W.alloc (.cells #[.int .u8 kd, .int .u8 n, .int .u8 gp, .slice A ln c] 46)).alloc (.cells #[.int .i64 0, .string ⟨#[]⟩, .int .i64 0] 31)).alloc (.cells #[.string ⟨#[32]⟩, .string ⟨#[10]⟩, .string ⟨#[9]⟩, .string ⟨#[13, 10]⟩, .string ⟨#[32, 32]⟩, .string ⟨#[10, 37, 112, 97, 115, 115, 101, 100, 32, 111, 118, 101, 114, 32, 34, 40, 10]⟩] 9)).alloc (.cells #[.int .i64 1, .string ⟨#[]⟩, .int .i64 0] 31) = w := ⟨_, rfl⟩
  rw [hb7, hb2, hw4] at HT
  rw [hb7, hb2, hw4]
  rw [hb1] at HT ⊢
  clear hw4 hsix
  go_upto_region 6 with (fail)
  have HT := Aside0.mk (HT.out.below (Below.refl _ _).drew)
  have x3 : w4.drew.cell? ⟨b1, 3, none⟩ = some (.slice A ln c) := (blk_cell HT.out.h1 3).trans rfl
  refine start_ (n := 6) (S := fun w' => w'.cell? ⟨b1, 3, none⟩ = some (.slice A ln c)) (ds := [5]) #[false, false, false, false, false, false] (by kernel_rfl) rfl rfl x3 (fun hHeld => ?_)
  generalize w4.drew = wd at HT x3 hHeld ⊢
  refine pure_ (i := 0) (N := some 24) (v := ?_) (a' := ?_) #[true, false, false, false, false, false] rfl rfl (by kernel_rfl) (fun _ _ _ h => h) (Or.inl ⟨by rfl, ?_⟩) ?_ ?_
  rotate_left
  · intro w'
    go_simp
    with_reducible rfl
  rotate_left
  · simp only [Act.put, List.setIfInBounds_toArray, List.set_cons_zero, List.set_cons_succ, i64_w, i32_w]
    rfl
  refine take_ (i := 1) (N := some 25) (v := ?_) (a' := ?_) #[true, true, false, false, false, false] rfl rfl (by kernel_rfl) (fun _ _ _ h => h) (Or.inl ⟨by rfl, ?_⟩) hHeld ?_ ?_
  rotate_left
  · rintro w' s0
    go_simp
    with_reducible rfl
  rotate_left
  · simp only [Act.put, List.setIfInBounds_toArray, List.set_cons_zero, List.set_cons_succ, i64_w, i32_w]
    rfl
  refine one_ (i := 2) (N := some 26) #[true, true, true, false, false, false] rfl rfl (by kernel_rfl) (by decide) (fun K hK => ?_)
  refine goes_ Tryz.func27 (by kernel_rfl) rfl #[] (by rfl) rfl rfl (by first | (simp only [List.map_toArray, List.map_cons, List.map_nil]; done) | (simp only [List.map_toArray, List.map_cons, List.map_nil]; rfl)) ?_
  with_reducible refine (HPR.out _).mono ?_
  rintro e w5 ⟨rfl, hb5⟩
  refine ⟨_, rfl, ?_⟩
  have HT5 := Aside0.mk (HT.out.below hb5)
  clear hb5 HT
  refine hK.out _ _ ((blk_cell HT5.out.h1 3).trans rfl) (fun hHeld1 => ?_)
  clear hK K hHeld
  refine norm_ (a' := ?_) ?_ ?_
  rotate_left
  · show Act.put _ (some 26) _ = _
    simp only [Act.put, List.setIfInBounds_toArray, List.set_cons_zero, List.set_cons_succ, i64_w, i32_w]
    rfl
  refine one_ (i := 3) (N := some 27) #[true, true, true, true, false, false] rfl rfl (by kernel_rfl) (by decide) (fun K hK => ?_)
  refine goes_ Tryz.func26 (by kernel_rfl) rfl #[.slice A ln c, .string ps, .int .i64 255] (by rfl) rfl rfl (by first | (simp only [List.map_toArray, List.map_cons, List.map_nil]; done) | (simp only [List.map_toArray, List.map_cons, List.map_nil]; rfl)) ?_
  with_reducible refine (HLT.out _ HT5.out.bl).mono ?_
  rintro e w6 ⟨rfl, hb6⟩
  refine ⟨_, rfl, ?_⟩
  have HT6 := Aside0.mk (HT5.out.below hb6)
  clear hb6 HT5
  refine hK.out _ _ ((blk_cell HT6.out.h1 3).trans rfl) (fun hHeld2 => ?_)
  clear hK K hHeld1
  refine norm_ (a' := ?_) ?_ ?_
  rotate_left
  · show Act.put _ (some 27) _ = _
    simp only [Act.put, List.setIfInBounds_toArray, List.set_cons_zero, List.set_cons_succ, i64_w, i32_w]
    rfl
  refine pure_ (i := 4) (N := some 28) (v := ?_) (a' := ?_) #[true, true, true, true, true, false] rfl rfl (by kernel_rfl) (fun _ _ _ h => h) (Or.inl ⟨by rfl, ?_⟩) ?_ ?_
  rotate_left
  · intro w'
    go_simp
    with_reducible rfl
  rotate_left
  · simp only [Act.put, List.setIfInBounds_toArray, List.set_cons_zero, List.set_cons_succ, i64_w, i32_w]
    rfl
  refine last_ (i := 5) (N := none) #[true, true, true, true, true, true] rfl rfl (by kernel_rfl) (by decide) (fun K hK => ?_)
  have y1 : w6.cell? ⟨b7, 1, none⟩ = some (.string ⟨#[]⟩) := HT6.out.c7.2.1
  have z1 : w6.frozen? ⟨b7, 1, none⟩ = false := blk_frozen HT6.out.h7 1
  refine skip_ (w1 := w6.setCell ⟨b7, 1, none⟩ (.string text)) (by rfl) rfl ?_ ?_
  · go_simp
    try rfl
  refine hK.out _ _ ?_
  clear hK K
  refine Go.Proofs.YtlpoglkddknedaaGreatDoorW.PrintLast.done_ (by kernel_rfl) ?_
  clear y1 z1 x3 hHeld2
  have HT7 := Aside0.mk (HT6.out.text text)
  clear HT6 HLT HPR
  obtain ⟨w7, hw7⟩ : ∃ w7, w6.setCell ⟨b7, 1, none⟩ (.string text) = w7 := ⟨_, rfl⟩
  rw [hw7] at HT7 ⊢
  clear hw7
  go_upto_region 7 with (fail)
  have HT8 := Aside0.mk (HT7.out.below (Below.refl _ _).drew)
  have x7 := HT8.out.c7
  clear HT7
  refine start_ (n := 12) (S := fun w' => w'.cell? ⟨b7, 0, none⟩ = some (.int .i64 1) ∧ w'.cell? ⟨b7, 1, none⟩ = some (.string text) ∧ w'.cell? ⟨b7, 2, none⟩ = some (.int .i64 0)) (ds := [9]) #[false, false, false, false, false, false, false, false, false, false, false, false] (by kernel_rfl) rfl rfl x7 (fun hHeld => ?_)
  generalize w7.drew = wd2 at HT8 x7 hHeld ⊢
  refine take_ (i := 0) (N := some 29) (v := ?_) (a' := ?_) #[true, false, false, false, false, false, false, false, false, false, false, false] rfl rfl (by kernel_rfl) (fun _ _ _ h => h) (Or.inl ⟨by rfl, ?_⟩) hHeld ?_ ?_
  rotate_left
  · rintro w' ⟨s0, s1, s2⟩
    go_simp
    with_reducible rfl
  rotate_left
  · simp only [Act.put, List.setIfInBounds_toArray, List.set_cons_zero, List.set_cons_succ, i64_w, i32_w]
    rfl
  refine pure_ (i := 3) (N := some 32) (v := ?_) (a' := ?_) #[true, false, false, true, false, false, false, false, false, false, false, false] rfl rfl (by kernel_rfl) (fun _ _ _ h => h) (Or.inl ⟨by rfl, ?_⟩) ?_ ?_
  rotate_left
  · intro w'
    go_simp
    with_reducible rfl
  rotate_left
  · simp only [Act.put, List.setIfInBounds_toArray, List.set_cons_zero, List.set_cons_succ, i64_w, i32_w]
    rfl
  refine take_ (i := 4) (N := some 33) (v := ?_) (a' := ?_) #[true, false, false, true, true, false, false, false, false, false, false, false] rfl rfl (by kernel_rfl) (fun _ _ _ h => h) (Or.inl ⟨by rfl, ?_⟩) hHeld ?_ ?_
  rotate_left
  · rintro w' ⟨s0, s1, s2⟩
    go_simp
    with_reducible rfl
  rotate_left
  · simp only [Act.put, List.setIfInBounds_toArray, List.set_cons_zero, List.set_cons_succ, i64_w, i32_w]
    rfl
  refine pure_ (i := 8) (N := some 37) (v := ?_) (a' := ?_) #[true, false, false, true, true, false, false, false, true, false, false, false] rfl rfl (by kernel_rfl) (fun _ _ _ h => h) (Or.inl ⟨by rfl, ?_⟩) ?_ ?_
  rotate_left
  · intro w'
    go_simp
    with_reducible rfl
  rotate_left
  · simp only [Act.put, List.setIfInBounds_toArray, List.set_cons_zero, List.set_cons_succ, i64_w, i32_w]
    rfl
  refine one_ (i := 1) (N := some 30) #[true, true, false, true, true, false, false, false, true, false, false, false] rfl rfl (by kernel_rfl) (by decide) (fun K hK => ?_)
  have hb : Below wd2.heap.size wd2 (wd2.alloc (.cells #[.string ⟨#[92]⟩, .string ⟨#[92, 92]⟩, .string ⟨#[34]⟩, .string ⟨#[92, 34]⟩] 9)) := (Below.refl _ _).alloc (Nat.le_refl _) _
  refine value_ (w1 := wd2.alloc (.cells #[.string ⟨#[92]⟩, .string ⟨#[92, 92]⟩, .string ⟨#[34]⟩, .string ⟨#[92, 34]⟩] 9)) (v := .slice (some ⟨wd2.heap.size, 0, none⟩) 4 4) (by rfl) rfl ?_ ?_
  · go_simp
    try rfl
  have HC4 := Aside0.mk (lit4 wd2)
  have HB9 := Aside0.mk hb
  clear hb
  refine hK.out _ _ (HT8.out.below HB9.out).c7 (fun hHeld1 => ?_)
  clear hK K hHeld
  refine norm_ (a' := ?_) ?_ ?_
  rotate_left
  · show Act.put _ (some 30) _ = _
    simp only [Act.put, List.setIfInBounds_toArray, List.set_cons_zero, List.set_cons_succ, i64_w, i32_w]
    rfl
  refine one_ (i := 2) (N := some 31) #[true, true, true, true, true, false, false, false, true, false, false, false] rfl rfl (by kernel_rfl) (by decide) (fun K hK => ?_)
  refine goes_ Tryz.func28 (by kernel_rfl) rfl #[.slice (some ⟨wd2.heap.size, 0, none⟩) 4 4] (by rfl) rfl rfl (by first | (simp only [List.map_toArray, List.map_cons, List.map_nil]; done) | (simp only [List.map_toArray, List.map_cons, List.map_nil]; rfl)) ?_
  with_reducible refine (newrep_call _ _ 4 HC4.out).mono ?_
  rintro e w9 ⟨g, rfl, hg, hnr, hb9⟩
  refine ⟨_, rfl, ?_⟩
  have HB10 := Aside0.mk (show Below wd2.heap.size wd2 w9 from HB9.out.trans (hb9.mono HB9.out.size))
  have HNR := Aside0.mk (show NR w9 g ∧ wd2.heap.size ≤ g from ⟨hnr, by have := HB9.out.size; omega⟩)
  clear hg hnr hb9 HC4 HB9
  refine hK.out _ _ (HT8.out.below HB10.out).c7 (fun hHeld2 => ?_)
  clear hK K hHeld1
  refine norm_ (a' := ?_) ?_ ?_
  rotate_left
  · show Act.put _ (some 31) _ = _
    simp only [Act.put, List.setIfInBounds_toArray, List.set_cons_zero, List.set_cons_succ, i64_w, i32_w]
    rfl
  refine one_ (i := 5) (N := some 34) #[true, true, true, true, true, true, false, false, true, false, false, false] rfl rfl (by kernel_rfl) (by decide) (fun K hK => ?_)
  refine goes_ Tryz.func29 (by kernel_rfl) rfl #[.pointer (some ⟨g, 0, none⟩), .string text] (by rfl) rfl rfl (by first | (simp only [List.map_toArray, List.map_cons, List.map_nil]; done) | (simp only [List.map_toArray, List.map_cons, List.map_nil]; rfl)) ?_
  with_reducible refine (HQ.out w9 g HNR.out.1).mono ?_
  rintro e w10 ⟨rfl, hbb⟩
  refine ⟨_, rfl, ?_⟩
  have HT10 := Aside0.mk (HT8.out.below (hbb _ _ HNR.out.2 HB10.out))
  clear hbb HB10 HNR HT8
  refine hK.out _ _ HT10.out.c7 (fun hHeld3 => ?_)
  clear hK K hHeld2
  refine norm_ (a' := ?_) ?_ ?_
  rotate_left
  · show Act.put _ (some 34) _ = _
    simp only [Act.put, List.setIfInBounds_toArray, List.set_cons_zero, List.set_cons_succ, i64_w, i32_w]
    rfl
  refine pure_ (i := 6) (N := some 35) (v := ?_) (a' := ?_) #[true, true, true, true, true, true, true, false, true, false, false, false] rfl rfl (by kernel_rfl) (fun _ _ _ h => h) (Or.inl ⟨by rfl, ?_⟩) ?_ ?_
  rotate_left
  · intro w'
    go_simp
    with_reducible rfl
  rotate_left
  · simp only [Act.put, List.setIfInBounds_toArray, List.set_cons_zero, List.set_cons_succ, i64_w, i32_w]
    rfl
  refine pure_ (i := 7) (N := some 36) (v := ?_) (a' := ?_) #[true, true, true, true, true, true, true, true, true, false, false, false] rfl rfl (by kernel_rfl) (fun _ _ _ h => h) (Or.inl ⟨by rfl, ?_⟩) ?_ ?_
  rotate_left
  · intro w'
    go_simp
    with_reducible rfl
  rotate_left
  · simp only [Act.put, List.setIfInBounds_toArray, List.set_cons_zero, List.set_cons_succ, i64_w, i32_w]
    rfl
  refine last_ (i := 9) (N := none) #[true, true, true, true, true, true, true, true, true, true, false, false] rfl rfl (by kernel_rfl) (by decide) (fun K hK => ?_)
  obtain ⟨⟨y0, y1, y2⟩, z0, z1, z2⟩ := HT10.out.c2
  have y1' := (World.cell?_setCell_other w10 ⟨b2, 0, none⟩ ⟨b2, 1, none⟩ (.int .i64 1) (by simp)).trans y1
  refine skip_ (w1 := laid3 w10 b2 1 text) (by rfl) rfl ?_ ?_
  · go_simp
    try rfl
  refine hK.out _ _ ?_
  clear hK K
  refine pure_ (i := 10) (N := some 3) (v := ?_) (a' := ?_) #[true, true, true, true, true, true, true, true, true, true, true, false] rfl rfl (by kernel_rfl) (fun _ _ _ h => h) (Or.inl ⟨by rfl, ?_⟩) ?_ ?_
  rotate_left
  · intro w'
    go_simp
    with_reducible rfl
  rotate_left
  · simp only [Act.put, List.setIfInBounds_toArray, List.set_cons_zero, List.set_cons_succ, i64_w, i32_w]
    rfl
  refine pure_ (i := 11) (N := some 4) (v := ?_) (a' := ?_) #[true, true, true, true, true, true, true, true, true, true, true, true] rfl rfl (by kernel_rfl) (fun _ _ _ h => h) (Or.inl ⟨by rfl, ?_⟩) ?_ ?_
  rotate_left
  · intro w'
    go_simp
    with_reducible rfl
  rotate_left
  · simp only [Act.put, List.setIfInBounds_toArray, List.set_cons_zero, List.set_cons_succ, i64_w, i32_w]
    rfl
  refine Go.Proofs.YtlpoglkddknedaaGreatDoorW.PrintLast.done_ (by kernel_rfl) ?_
  clear y0 y1 y2 z0 z1 z2 y1' x7 hHeld3
  go_wp2
  refine bodyPost_ret (res13 rfl rfl rfl HT10.out.laid) rfl ?_
  exact ⟨by rw [HGS.out], HT10.out.laidB⟩
end Go.Proofs.YtlpoglkddknedaaGreatDoor.R

namespace Go.Proofs.YtlpoglkddknedaaGreatDoor.R
open Go.RowKit Go.Lib Go.Proofs.YtlpoglkddknedaaGreatDoor.T Go.Proofs.YtlpoglkddknedaaGreatDoor.H Go.Proofs.YtlpoglkddknedaaGreatDoorW.PrintWords Go.Proofs.YtlpoglkddknedaaGreatDoorW.PrintLast
set_option linter.unusedVariables false
set_option linter.unusedSimpArgs false
set_option maxRecDepth 100000 in
set_option maxHeartbeats 4000000 in
theorem tok_mark (W : World) (kd n gp : Int) (A : Option Addr) (c : Nat) (B : List Int) (hB : Kd.C (Kd.int .u8) W A B.length B) (hc : B.length ≤ c) (hBr : ∀ x ∈ B, 0 ≤ x ∧ x ≤ 255) (hk : 0 ≤ kd ∧ kd ≤ 255) (hn : 0 ≤ n ∧ n ≤ 255) (hg : 0 ≤ gp ∧ gp ≤ 255) (hkd : kd % 11 = 10) :
    TokA W kd n gp A B.length c 11 (markOf n) (markOf n) (gapOf gp) := by
  unfold TokA
  obtain ⟨ln, hln⟩ : ∃ ln, B.length = ln := ⟨_, rfl⟩
  rw [hln]
  clear hln
  have hk0 := hk.1
  have hk1 := hk.2
  have hn0 := hn.1
  have hn1 := hn.2
  have hg0 := hg.1
  have hg1 := hg.2
  have h60 : 0 ≤ gp % 6 := by omega
  have h66 : gp % 6 < 6 := by omega
  have hsix := six_cell ((W.alloc (.cells #[.int .u8 kd, .int .u8 n, .int .u8 gp, .slice A ln c] 46)).alloc (.cells #[.int .i64 0, .string ⟨#[]⟩, .int .i64 0] 31)) gaps rfl gp
  obtain ⟨gs, hgs⟩ : ∃ gs, gapOf gp = gs := ⟨_, rfl⟩
  rw [show gaps.getD (gp % 6).toNat ⟨#[]⟩ = gs from hgs] at hsix
  simp only [gaps, List.map_cons, List.map_nil, World.size_alloc] at hsix
  have HGS := Aside0.mk hgs
  clear hB hc hBr hk hn hg hgs
  go_enter Tryz.func13, Tryz.ntmps13
  go_upto_region 4 with (fail)
  have HT := Aside0.mk (TB.start W #[.int .u8 kd, .int .u8 n, .int .u8 gp, .slice A ln c] 11)
  simp only [gaps, List.map_cons, List.map_nil] at HT
  obtain ⟨b1, hb1⟩ : ∃ b, W.heap.size = b := ⟨_, rfl⟩
  obtain ⟨b2, hb2⟩ : ∃ b, W.heap.size + 1 = b := ⟨_, rfl⟩
  obtain ⟨b7, hb7⟩ : ∃ b, W.heap.size + 1 + 1 + 1 = b := ⟨_, rfl⟩
  obtain ⟨w4, hw4⟩ : ∃ w, (((W.alloc (.cells #[.int .u8 kd, .int .u8 n, .int .u8 gp, .slice A ln c] 46)).alloc (.cells #[.int .i64 0, .string ⟨#[]⟩, .int .i64 0] 31)).alloc (.cells #[.string ⟨#[32]⟩, .string ⟨#[10]⟩, .string ⟨#[9]⟩, .string ⟨#[13, 10]⟩, .string ⟨#[32, 32]⟩, .string ⟨#[10, 37, 112, 97, 115, 115, 101, 100, 32, 111, 118, 101, 114, 32, 34, 40, 10]⟩] 9)).alloc (.cells #[.int .i64 11, .string ⟨#[]⟩, .int .i64 0] 31) = w := ⟨_, rfl⟩
  rw [hb7, hb2, hw4] at HT
  rw [hb7, hb2, hw4]
  rw [hb1] at HT ⊢
  clear hw4 hsix
  have HM := Aside0.mk (HT.out.below ((Below.refl w4.heap.size w4).alloc (Nat.le_refl _) (.cells #[.string ⟨#[33]⟩, .string ⟨#[63]⟩, .string ⟨#[33, 33]⟩, .string ⟨#[63, 63]⟩, .string ⟨#[33, 63]⟩, .string ⟨#[63, 33]⟩] 9)))
  have hmk := six_cell w4 marks rfl n
  obtain ⟨mk, hmk0⟩ : ∃ mk, markOf n = mk := ⟨_, rfl⟩
  rw [show marks.getD (n % 6).toNat ⟨#[]⟩ = mk from hmk0] at hmk
  simp only [marks, List.map_cons, List.map_nil] at hmk
  have HMK := Aside0.mk hmk0
  have hn60 : 0 ≤ n % 6 := by omega
  have hn66 : n % 6 < 6 := by omega
  have x1 := (blk_cell HT.out.h1 1).trans rfl
  have x1 : w4.cell? ⟨b1, 1, none⟩ = some (.int .u8 n) := x1
  have x2 : (w4.alloc (.cells #[.string ⟨#[33]⟩, .string ⟨#[63]⟩, .string ⟨#[33, 33]⟩, .string ⟨#[63, 63]⟩, .string ⟨#[33, 63]⟩, .string ⟨#[63, 33]⟩] 9)).cell? ⟨b1, 1, none⟩ = some (.int .u8 n) := (blk_cell HM.out.h1 1).trans rfl
  have y1 := HM.out.c7.2.1
  have z1 := blk_frozen HM.out.h7 1
  clear hmk0
  go_upto_region 22 with (fail)
  have HT7 := Aside0.mk (HM.out.text mk)
  obtain ⟨w7, hw7⟩ : ∃ w7, (w4.alloc (.cells #[.string ⟨#[33]⟩, .string ⟨#[63]⟩, .string ⟨#[33, 33]⟩, .string ⟨#[63, 63]⟩, .string ⟨#[33, 63]⟩, .string ⟨#[63, 33]⟩] 9)).setCell ⟨b7, 1, none⟩ (.string mk) = w7 := ⟨_, rfl⟩
  rw [hw7] at HT7 ⊢
  clear hw7 HM HT x1 x2 y1 z1 hmk
  go_upto_region 22 with (fail)
  have HT8 := Aside0.mk (HT7.out.below (Below.refl _ _).drew)
  have x7 := HT8.out.c7
  clear HT7
  refine start_ (n := 7) (S := fun w' => w'.cell? ⟨b7, 0, none⟩ = some (.int .i64 11) ∧ w'.cell? ⟨b7, 1, none⟩ = some (.string mk) ∧ w'.cell? ⟨b7, 2, none⟩ = some (.int .i64 0)) (ds := []) #[false, false, false, false, false, false, false] (by kernel_rfl) rfl rfl x7 (fun hHeld => ?_)
  generalize w7.drew = wd2 at HT8 x7 hHeld ⊢
  refine take_ (i := 0) (N := some 123) (v := ?_) (a' := ?_) #[true, false, false, false, false, false, false] rfl rfl (by kernel_rfl) (fun _ _ _ h => h) (Or.inl ⟨by rfl, ?_⟩) hHeld ?_ ?_
  rotate_left
  · rintro w' ⟨s0, s1, s2⟩
    go_simp
    with_reducible rfl
  rotate_left
  · simp only [Act.put, List.setIfInBounds_toArray, List.set_cons_zero, List.set_cons_succ, i64_w, i32_w]
    rfl
  refine pure_ (i := 1) (N := some 124) (v := ?_) (a' := ?_) #[true, true, false, false, false, false, false] rfl rfl (by kernel_rfl) (fun _ _ _ h => h) (Or.inl ⟨by rfl, ?_⟩) ?_ ?_
  rotate_left
  · intro w'
    go_simp
    with_reducible rfl
  rotate_left
  · simp only [Act.put, List.setIfInBounds_toArray, List.set_cons_zero, List.set_cons_succ, i64_w, i32_w]
    rfl
  refine take_ (i := 2) (N := some 125) (v := ?_) (a' := ?_) #[true, true, true, false, false, false, false] rfl rfl (by kernel_rfl) (fun _ _ _ h => h) (Or.inl ⟨by rfl, ?_⟩) hHeld ?_ ?_
  rotate_left
  · rintro w' ⟨s0, s1, s2⟩
    go_simp
    with_reducible rfl
  rotate_left
  · simp only [Act.put, List.setIfInBounds_toArray, List.set_cons_zero, List.set_cons_succ, i64_w, i32_w]
    rfl
  refine pure_ (i := 3) (N := some 126) (v := ?_) (a' := ?_) #[true, true, true, true, false, false, false] rfl rfl (by kernel_rfl) (fun _ _ _ h => h) (Or.inl ⟨by rfl, ?_⟩) ?_ ?_
  rotate_left
  · intro w'
    go_simp
    with_reducible rfl
  rotate_left
  · simp only [Act.put, List.setIfInBounds_toArray, List.set_cons_zero, List.set_cons_succ, i64_w, i32_w]
    rfl
  refine one_ (i := 4) (N := none) #[true, true, true, true, true, false, false] rfl rfl (by kernel_rfl) (by decide) (fun K hK => ?_)
  obtain ⟨⟨y0, y1, y2⟩, z0, z1, z2⟩ := HT8.out.c2
  have y1' := (World.cell?_setCell_other wd2 ⟨b2, 0, none⟩ ⟨b2, 1, none⟩ (.int .i64 11) (by simp)).trans y1
  refine skip_ (w1 := laid3 wd2 b2 11 mk) (by rfl) rfl ?_ ?_
  · go_simp
    try rfl
  refine hK.out _ _ ⟨(blk_cell HT8.out.laid7 0).trans rfl, (blk_cell HT8.out.laid7 1).trans rfl, (blk_cell HT8.out.laid7 2).trans rfl⟩ (fun hHeld1 => ?_)
  clear hK K hHeld
  refine pure_ (i := 5) (N := some 3) (v := ?_) (a' := ?_) #[true, true, true, true, true, true, false] rfl rfl (by kernel_rfl) (fun _ _ _ h => h) (Or.inl ⟨by rfl, ?_⟩) ?_ ?_
  rotate_left
  · intro w'
    go_simp
    with_reducible rfl
  rotate_left
  · simp only [Act.put, List.setIfInBounds_toArray, List.set_cons_zero, List.set_cons_succ, i64_w, i32_w]
    rfl
  refine pure_ (i := 6) (N := some 4) (v := ?_) (a' := ?_) #[true, true, true, true, true, true, true] rfl rfl (by kernel_rfl) (fun _ _ _ h => h) (Or.inl ⟨by rfl, ?_⟩) ?_ ?_
  rotate_left
  · intro w'
    go_simp
    with_reducible rfl
  rotate_left
  · simp only [Act.put, List.setIfInBounds_toArray, List.set_cons_zero, List.set_cons_succ, i64_w, i32_w]
    rfl
  refine Go.Proofs.YtlpoglkddknedaaGreatDoorW.PrintLast.done_ (by kernel_rfl) ?_
  clear y0 y1 y2 z0 z1 z2 y1' x7 hHeld1
  go_wp2
  refine bodyPost_ret (res13 rfl rfl rfl HT8.out.laid) rfl ?_
  exact ⟨by rw [HGS.out, HMK.out], HT8.out.laidB⟩
end Go.Proofs.YtlpoglkddknedaaGreatDoor.R

namespace Go.Proofs.YtlpoglkddknedaaGreatDoor.R
open Go.RowKit Go.Lib Go.Proofs.YtlpoglkddknedaaGreatDoor.T Go.Proofs.YtlpoglkddknedaaGreatDoor.H Go.Proofs.YtlpoglkddknedaaGreatDoorW.PrintWords Go.Proofs.YtlpoglkddknedaaGreatDoorW.PrintLast
set_option linter.unusedVariables false
set_option linter.unusedSimpArgs false
set_option maxRecDepth 100000 in
set_option maxHeartbeats 4000000 in
theorem tok_sign0 (W : World) (kd n gp : Int) (A : Option Addr) (c : Nat) (B : List Int) (hB : Kd.C (Kd.int .u8) W A B.length B) (hc : B.length ≤ c) (hBr : ∀ x ∈ B, 0 ≤ x ∧ x ≤ 255) (hk : 0 ≤ kd ∧ kd ≤ 255) (hn : 0 ≤ n ∧ n ≤ 255) (hg : 0 ≤ gp ∧ gp ≤ 255) (hkd : kd % 11 = 2) :
    TokA W kd n gp A B.length c 3 ⟨#[46]⟩ ⟨#[46]⟩ (gapOf gp) := by
  unfold TokA
  obtain ⟨ln, hln⟩ : ∃ ln, B.length = ln := ⟨_, rfl⟩
  rw [hln]
  clear hln
  have hk0 := hk.1
  have hk1 := hk.2
  have hn0 := hn.1
  have hn1 := hn.2
  have hg0 := hg.1
  have hg1 := hg.2
  have h60 : 0 ≤ gp % 6 := by omega
  have h66 : gp % 6 < 6 := by omega
  have hsix := six_cell ((W.alloc (.cells #[.int .u8 kd, .int .u8 n, .int .u8 gp, .slice A ln c] 46)).alloc (.cells #[.int .i64 0, .string ⟨#[]⟩, .int .i64 0] 31)) gaps rfl gp
  obtain ⟨gs, hgs⟩ : ∃ gs, gapOf gp = gs := ⟨_, rfl⟩
  rw [show gaps.getD (gp % 6).toNat ⟨#[]⟩ = gs from hgs] at hsix
  simp only [gaps, List.map_cons, List.map_nil, World.size_alloc] at hsix
  have HGS := Aside0.mk hgs
  clear hB hc hBr hk hn hg hgs
  go_enter Tryz.func13, Tryz.ntmps13
  go_upto_region 4 with (fail)
  have HT := Aside0.mk (TB.start W #[.int .u8 kd, .int .u8 n, .int .u8 gp, .slice A ln c] 3)
  simp only [gaps, List.map_cons, List.map_nil] at HT
  obtain ⟨b1, hb1⟩ : ∃ b, W.heap.size = b := ⟨_, rfl⟩
  obtain ⟨b2, hb2⟩ : ∃ b, W.heap.size + 1 = b := ⟨_, rfl⟩
  obtain ⟨b7, hb7⟩ : ∃ b, W.heap.size + 1 + 1 + 1 = b := ⟨_, rfl⟩
  obtain ⟨w4, hw4⟩ : ∃ w, (((W.alloc (.cells #[.int .u8 kd, .int .u8 n, .int .u8 gp, .slice A ln c] 46)).alloc (.cells #[.int .i64 0, .string ⟨#[]⟩, .int .i64 0] 31)).alloc (.cells #[.string ⟨#[32]⟩, .string ⟨#[10]⟩, .string ⟨#[9]⟩, .string ⟨#[13, 10]⟩, .string ⟨#[32, 32]⟩, .string ⟨#[10, 37, 112, 97, 115, 115, 101, 100, 32, 111, 118, 101, 114, 32, 34, 40, 10]⟩] 9)).alloc (.cells #[.int .i64 3, .string ⟨#[]⟩, .int .i64 0] 31) = w := ⟨_, rfl⟩
  rw [hb7, hb2, hw4] at HT
  rw [hb7, hb2, hw4]
  rw [hb1] at HT ⊢
  clear hw4 hsix
  have hex : (⟨#[46, 42, 91, 93, 40, 41]⟩ : ByteArray).extract 0 1 = ⟨#[46]⟩ := rfl
  have y1 := HT.out.c7.2.1
  have z1 := blk_frozen HT.out.h7 1
  go_upto_region 24 with (fail)
  have HT7 := Aside0.mk (HT.out.text ⟨#[46]⟩)
  obtain ⟨w7, hw7⟩ : ∃ w7, w4.setCell ⟨b7, 1, none⟩ (.string ⟨#[46]⟩) = w7 := ⟨_, rfl⟩
  rw [hw7] at HT7 ⊢
  clear hw7 HT y1 z1 hex
  go_upto_region 24 with (fail)
  have HT8 := Aside0.mk (HT7.out.below (Below.refl _ _).drew)
  have x7 := HT8.out.c7
  clear HT7
  refine start_ (n := 7) (S := fun w' => w'.cell? ⟨b7, 0, none⟩ = some (.int .i64 3) ∧ w'.cell? ⟨b7, 1, none⟩ = some (.string ⟨#[46]⟩) ∧ w'.cell? ⟨b7, 2, none⟩ = some (.int .i64 0)) (ds := []) #[false, false, false, false, false, false, false] (by kernel_rfl) rfl rfl x7 (fun hHeld => ?_)
  generalize w7.drew = wd2 at HT8 x7 hHeld ⊢
  refine take_ (i := 0) (N := some 133) (v := ?_) (a' := ?_) #[true, false, false, false, false, false, false] rfl rfl (by kernel_rfl) (fun _ _ _ h => h) (Or.inl ⟨by rfl, ?_⟩) hHeld ?_ ?_
  rotate_left
  · rintro w' ⟨s0, s1, s2⟩
    go_simp
    with_reducible rfl
  rotate_left
  · simp only [Act.put, List.setIfInBounds_toArray, List.set_cons_zero, List.set_cons_succ, i64_w, i32_w]
    rfl
  refine pure_ (i := 1) (N := some 134) (v := ?_) (a' := ?_) #[true, true, false, false, false, false, false] rfl rfl (by kernel_rfl) (fun _ _ _ h => h) (Or.inl ⟨by rfl, ?_⟩) ?_ ?_
  rotate_left
  · intro w'
    go_simp
    with_reducible rfl
  rotate_left
  · simp only [Act.put, List.setIfInBounds_toArray, List.set_cons_zero, List.set_cons_succ, i64_w, i32_w]
    rfl
  refine take_ (i := 2) (N := some 135) (v := ?_) (a' := ?_) #[true, true, true, false, false, false, false] rfl rfl (by kernel_rfl) (fun _ _ _ h => h) (Or.inl ⟨by rfl, ?_⟩) hHeld ?_ ?_
  rotate_left
  · rintro w' ⟨s0, s1, s2⟩
    go_simp
    with_reducible rfl
  rotate_left
  · simp only [Act.put, List.setIfInBounds_toArray, List.set_cons_zero, List.set_cons_succ, i64_w, i32_w]
    rfl
  refine pure_ (i := 3) (N := some 136) (v := ?_) (a' := ?_) #[true, true, true, true, false, false, false] rfl rfl (by kernel_rfl) (fun _ _ _ h => h) (Or.inl ⟨by rfl, ?_⟩) ?_ ?_
  rotate_left
  · intro w'
    go_simp
    with_reducible rfl
  rotate_left
  · simp only [Act.put, List.setIfInBounds_toArray, List.set_cons_zero, List.set_cons_succ, i64_w, i32_w]
    rfl
  refine one_ (i := 4) (N := none) #[true, true, true, true, true, false, false] rfl rfl (by kernel_rfl) (by decide) (fun K hK => ?_)
  obtain ⟨⟨y0, y1, y2⟩, z0, z1, z2⟩ := HT8.out.c2
  have y1' := (World.cell?_setCell_other wd2 ⟨b2, 0, none⟩ ⟨b2, 1, none⟩ (.int .i64 3) (by simp)).trans y1
  refine skip_ (w1 := laid3 wd2 b2 3 ⟨#[46]⟩) (by rfl) rfl ?_ ?_
  · go_simp
    try rfl
  refine hK.out _ _ ⟨(blk_cell HT8.out.laid7 0).trans rfl, (blk_cell HT8.out.laid7 1).trans rfl, (blk_cell HT8.out.laid7 2).trans rfl⟩ (fun hHeld1 => ?_)
  clear hK K hHeld
  refine pure_ (i := 5) (N := some 3) (v := ?_) (a' := ?_) #[true, true, true, true, true, true, false] rfl rfl (by kernel_rfl) (fun _ _ _ h => h) (Or.inl ⟨by rfl, ?_⟩) ?_ ?_
  rotate_left
  · intro w'
    go_simp
    with_reducible rfl
  rotate_left
  · simp only [Act.put, List.setIfInBounds_toArray, List.set_cons_zero, List.set_cons_succ, i64_w, i32_w]
    rfl
  refine pure_ (i := 6) (N := some 4) (v := ?_) (a' := ?_) #[true, true, true, true, true, true, true] rfl rfl (by kernel_rfl) (fun _ _ _ h => h) (Or.inl ⟨by rfl, ?_⟩) ?_ ?_
  rotate_left
  · intro w'
    go_simp
    with_reducible rfl
  rotate_left
  · simp only [Act.put, List.setIfInBounds_toArray, List.set_cons_zero, List.set_cons_succ, i64_w, i32_w]
    rfl
  refine Go.Proofs.YtlpoglkddknedaaGreatDoorW.PrintLast.done_ (by kernel_rfl) ?_
  clear y0 y1 y2 z0 z1 z2 y1' x7 hHeld1
  go_wp2
  refine bodyPost_ret (res13 rfl rfl rfl HT8.out.laid) rfl ?_
  exact ⟨by rw [HGS.out], HT8.out.laidB⟩
set_option maxRecDepth 100000 in
set_option maxHeartbeats 4000000 in
theorem tok_sign1 (W : World) (kd n gp : Int) (A : Option Addr) (c : Nat) (B : List Int) (hB : Kd.C (Kd.int .u8) W A B.length B) (hc : B.length ≤ c) (hBr : ∀ x ∈ B, 0 ≤ x ∧ x ≤ 255) (hk : 0 ≤ kd ∧ kd ≤ 255) (hn : 0 ≤ n ∧ n ≤ 255) (hg : 0 ≤ gp ∧ gp ≤ 255) (hkd : kd % 11 = 3) :
    TokA W kd n gp A B.length c 4 ⟨#[42]⟩ ⟨#[42]⟩ (gapOf gp) := by
  unfold TokA
  obtain ⟨ln, hln⟩ : ∃ ln, B.length = ln := ⟨_, rfl⟩
  rw [hln]
  clear hln
  have hk0 := hk.1
  have hk1 := hk.2
  have hn0 := hn.1
  have hn1 := hn.2
  have hg0 := hg.1
  have hg1 := hg.2
  have h60 : 0 ≤ gp % 6 := by omega
  have h66 : gp % 6 < 6 := by omega
  have hsix := six_cell ((W.alloc (.cells #[.int .u8 kd, .int .u8 n, .int .u8 gp, .slice A ln c] 46)).alloc (.cells #[.int .i64 0, .string ⟨#[]⟩, .int .i64 0] 31)) gaps rfl gp
  obtain ⟨gs, hgs⟩ : ∃ gs, gapOf gp = gs := ⟨_, rfl⟩
  rw [show gaps.getD (gp % 6).toNat ⟨#[]⟩ = gs from hgs] at hsix
  simp only [gaps, List.map_cons, List.map_nil, World.size_alloc] at hsix
  have HGS := Aside0.mk hgs
  clear hB hc hBr hk hn hg hgs
  go_enter Tryz.func13, Tryz.ntmps13
  go_upto_region 4 with (fail)
  have HT := Aside0.mk (TB.start W #[.int .u8 kd, .int .u8 n, .int .u8 gp, .slice A ln c] 4)
  simp only [gaps, List.map_cons, List.map_nil] at HT
  obtain ⟨b1, hb1⟩ : ∃ b, W.heap.size = b := ⟨_, rfl⟩
  obtain ⟨b2, hb2⟩ : ∃ b, W.heap.size + 1 = b := ⟨_, rfl⟩
  obtain ⟨b7, hb7⟩ : ∃ b, W.heap.size + 1 + 1 + 1 = b := ⟨_, rfl⟩
  obtain ⟨w4, hw4⟩ : ∃ w, (((W.alloc (.cells #[.int .u8 kd, .int .u8 n, .int .u8 gp, .slice A ln c] 46)).alloc (.cells #[.int .i64 0, .string ⟨#[]⟩, .int .i64 0] 31)).alloc (.cells #[.string ⟨#[32]⟩, .string ⟨#[10]⟩, .string ⟨#[9]⟩, .string ⟨#[13, 10]⟩, .string ⟨#[32, 32]⟩, .string ⟨#[10, 37, 112, 97, 115, 115, 101, 100, 32, 111, 118, 101, 114, 32, 34, 40, 10]⟩] 9)).alloc (.cells #[.int .i64 4, .string ⟨#[]⟩, .int .i64 0] 31) = w := ⟨_, rfl⟩
  rw [hb7, hb2, hw4] at HT
  rw [hb7, hb2, hw4]
  rw [hb1] at HT ⊢
  clear hw4 hsix
  have hex : (⟨#[46, 42, 91, 93, 40, 41]⟩ : ByteArray).extract 1 2 = ⟨#[42]⟩ := rfl
  have y1 := HT.out.c7.2.1
  have z1 := blk_frozen HT.out.h7 1
  go_upto_region 24 with (fail)
  have HT7 := Aside0.mk (HT.out.text ⟨#[42]⟩)
  obtain ⟨w7, hw7⟩ : ∃ w7, w4.setCell ⟨b7, 1, none⟩ (.string ⟨#[42]⟩) = w7 := ⟨_, rfl⟩
  rw [hw7] at HT7 ⊢
  clear hw7 HT y1 z1 hex
  go_upto_region 24 with (fail)
  have HT8 := Aside0.mk (HT7.out.below (Below.refl _ _).drew)
  have x7 := HT8.out.c7
  clear HT7
  refine start_ (n := 7) (S := fun w' => w'.cell? ⟨b7, 0, none⟩ = some (.int .i64 4) ∧ w'.cell? ⟨b7, 1, none⟩ = some (.string ⟨#[42]⟩) ∧ w'.cell? ⟨b7, 2, none⟩ = some (.int .i64 0)) (ds := []) #[false, false, false, false, false, false, false] (by kernel_rfl) rfl rfl x7 (fun hHeld => ?_)
  generalize w7.drew = wd2 at HT8 x7 hHeld ⊢
  refine take_ (i := 0) (N := some 133) (v := ?_) (a' := ?_) #[true, false, false, false, false, false, false] rfl rfl (by kernel_rfl) (fun _ _ _ h => h) (Or.inl ⟨by rfl, ?_⟩) hHeld ?_ ?_
  rotate_left
  · rintro w' ⟨s0, s1, s2⟩
    go_simp
    with_reducible rfl
  rotate_left
  · simp only [Act.put, List.setIfInBounds_toArray, List.set_cons_zero, List.set_cons_succ, i64_w, i32_w]
    rfl
  refine pure_ (i := 1) (N := some 134) (v := ?_) (a' := ?_) #[true, true, false, false, false, false, false] rfl rfl (by kernel_rfl) (fun _ _ _ h => h) (Or.inl ⟨by rfl, ?_⟩) ?_ ?_
  rotate_left
  · intro w'
    go_simp
    with_reducible rfl
  rotate_left
  · simp only [Act.put, List.setIfInBounds_toArray, List.set_cons_zero, List.set_cons_succ, i64_w, i32_w]
    rfl
  refine take_ (i := 2) (N := some 135) (v := ?_) (a' := ?_) #[true, true, true, false, false, false, false] rfl rfl (by kernel_rfl) (fun _ _ _ h => h) (Or.inl ⟨by rfl, ?_⟩) hHeld ?_ ?_
  rotate_left
  · rintro w' ⟨s0, s1, s2⟩
    go_simp
    with_reducible rfl
  rotate_left
  · simp only [Act.put, List.setIfInBounds_toArray, List.set_cons_zero, List.set_cons_succ, i64_w, i32_w]
    rfl
  refine pure_ (i := 3) (N := some 136) (v := ?_) (a' := ?_) #[true, true, true, true, false, false, false] rfl rfl (by kernel_rfl) (fun _ _ _ h => h) (Or.inl ⟨by rfl, ?_⟩) ?_ ?_
  rotate_left
  · intro w'
    go_simp
    with_reducible rfl
  rotate_left
  · simp only [Act.put, List.setIfInBounds_toArray, List.set_cons_zero, List.set_cons_succ, i64_w, i32_w]
    rfl
  refine one_ (i := 4) (N := none) #[true, true, true, true, true, false, false] rfl rfl (by kernel_rfl) (by decide) (fun K hK => ?_)
  obtain ⟨⟨y0, y1, y2⟩, z0, z1, z2⟩ := HT8.out.c2
  have y1' := (World.cell?_setCell_other wd2 ⟨b2, 0, none⟩ ⟨b2, 1, none⟩ (.int .i64 4) (by simp)).trans y1
  refine skip_ (w1 := laid3 wd2 b2 4 ⟨#[42]⟩) (by rfl) rfl ?_ ?_
  · go_simp
    try rfl
  refine hK.out _ _ ⟨(blk_cell HT8.out.laid7 0).trans rfl, (blk_cell HT8.out.laid7 1).trans rfl, (blk_cell HT8.out.laid7 2).trans rfl⟩ (fun hHeld1 => ?_)
  clear hK K hHeld
  refine pure_ (i := 5) (N := some 3) (v := ?_) (a' := ?_) #[true, true, true, true, true, true, false] rfl rfl (by kernel_rfl) (fun _ _ _ h => h) (Or.inl ⟨by rfl, ?_⟩) ?_ ?_
  rotate_left
  · intro w'
    go_simp
    with_reducible rfl
  rotate_left
  · simp only [Act.put, List.setIfInBounds_toArray, List.set_cons_zero, List.set_cons_succ, i64_w, i32_w]
    rfl
  refine pure_ (i := 6) (N := some 4) (v := ?_) (a' := ?_) #[true, true, true, true, true, true, true] rfl rfl (by kernel_rfl) (fun _ _ _ h => h) (Or.inl ⟨by rfl, ?_⟩) ?_ ?_
  rotate_left
  · intro w'
    go_simp
    with_reducible rfl
  rotate_left
  · simp only [Act.put, List.setIfInBounds_toArray, List.set_cons_zero, List.set_cons_succ, i64_w, i32_w]
    rfl
  refine Go.Proofs.YtlpoglkddknedaaGreatDoorW.PrintLast.done_ (by kernel_rfl) ?_
  clear y0 y1 y2 z0 z1 z2 y1' x7 hHeld1
  go_wp2
  refine bodyPost_ret (res13 rfl rfl rfl HT8.out.laid) rfl ?_
  exact ⟨by rw [HGS.out], HT8.out.laidB⟩
set_option maxRecDepth 100000 in
set_option maxHeartbeats 4000000 in
theorem tok_sign2 (W : World) (kd n gp : Int) (A : Option Addr) (c : Nat) (B : List Int) (hB : Kd.C (Kd.int .u8) W A B.length B) (hc : B.length ≤ c) (hBr : ∀ x ∈ B, 0 ≤ x ∧ x ≤ 255) (hk : 0 ≤ kd ∧ kd ≤ 255) (hn : 0 ≤ n ∧ n ≤ 255) (hg : 0 ≤ gp ∧ gp ≤ 255) (hkd : kd % 11 = 4) :
    TokA W kd n gp A B.length c 5 ⟨#[91]⟩ ⟨#[91]⟩ (gapOf gp) := by
  unfold TokA
  obtain ⟨ln, hln⟩ : ∃ ln, B.length = ln := ⟨_, rfl⟩
  rw [hln]
  clear hln
  have hk0 := hk.1
  have hk1 := hk.2
  have hn0 := hn.1
  have hn1 := hn.2
  have hg0 := hg.1
  have hg1 := hg.2
  have h60 : 0 ≤ gp % 6 := by omega
  have h66 : gp % 6 < 6 := by omega
  have hsix := six_cell ((W.alloc (.cells #[.int .u8 kd, .int .u8 n, .int .u8 gp, .slice A ln c] 46)).alloc (.cells #[.int .i64 0, .string ⟨#[]⟩, .int .i64 0] 31)) gaps rfl gp
  obtain ⟨gs, hgs⟩ : ∃ gs, gapOf gp = gs := ⟨_, rfl⟩
  rw [show gaps.getD (gp % 6).toNat ⟨#[]⟩ = gs from hgs] at hsix
  simp only [gaps, List.map_cons, List.map_nil, World.size_alloc] at hsix
  have HGS := Aside0.mk hgs
  clear hB hc hBr hk hn hg hgs
  go_enter Tryz.func13, Tryz.ntmps13
  go_upto_region 4 with (fail)
  have HT := Aside0.mk (TB.start W #[.int .u8 kd, .int .u8 n, .int .u8 gp, .slice A ln c] 5)
  simp only [gaps, List.map_cons, List.map_nil] at HT
  obtain ⟨b1, hb1⟩ : ∃ b, W.heap.size = b := ⟨_, rfl⟩
  obtain ⟨b2, hb2⟩ : ∃ b, W.heap.size + 1 = b := ⟨_, rfl⟩
  obtain ⟨b7, hb7⟩ : ∃ b, W.heap.size + 1 + 1 + 1 = b := ⟨_, rfl⟩
  obtain ⟨w4, hw4⟩ : ∃ w, (((W.alloc (.cells #[.int .u8 kd, .int .u8 n, .int .u8 gp, .slice A ln c] 46)).alloc (.cells #[.int .i64 0, .string ⟨#[]⟩, .int .i64 0] 31)).alloc (.cells #[.string ⟨#[32]⟩, .string ⟨#[10]⟩, .string ⟨#[9]⟩, .string ⟨#[13, 10]⟩, .string ⟨#[32, 32]⟩, .string ⟨#[10, 37, 112, 97, 115, 115, 101, 100, 32, 111, 118, 101, 114, 32, 34, 40, 10]⟩] 9)).alloc (.cells #[.int .i64 5, .string ⟨#[]⟩, .int .i64 0] 31) = w := ⟨_, rfl⟩
  rw [hb7, hb2, hw4] at HT
  rw [hb7, hb2, hw4]
  rw [hb1] at HT ⊢
  clear hw4 hsix
  have hex : (⟨#[46, 42, 91, 93, 40, 41]⟩ : ByteArray).extract 2 3 = ⟨#[91]⟩ := rfl
  have y1 := HT.out.c7.2.1
  have z1 := blk_frozen HT.out.h7 1
  go_upto_region 24 with (fail)
  have HT7 := Aside0.mk (HT.out.text ⟨#[91]⟩)
  obtain ⟨w7, hw7⟩ : ∃ w7, w4.setCell ⟨b7, 1, none⟩ (.string ⟨#[91]⟩) = w7 := ⟨_, rfl⟩
  rw [hw7] at HT7 ⊢
  clear hw7 HT y1 z1 hex
  go_upto_region 24 with (fail)
  have HT8 := Aside0.mk (HT7.out.below (Below.refl _ _).drew)
  have x7 := HT8.out.c7
  clear HT7
  refine start_ (n := 7) (S := fun w' => w'.cell? ⟨b7, 0, none⟩ = some (.int .i64 5) ∧ w'.cell? ⟨b7, 1, none⟩ = some (.string ⟨#[91]⟩) ∧ w'.cell? ⟨b7, 2, none⟩ = some (.int .i64 0)) (ds := []) #[false, false, false, false, false, false, false] (by kernel_rfl) rfl rfl x7 (fun hHeld => ?_)
  generalize w7.drew = wd2 at HT8 x7 hHeld ⊢
  refine take_ (i := 0) (N := some 133) (v := ?_) (a' := ?_) #[true, false, false, false, false, false, false] rfl rfl (by kernel_rfl) (fun _ _ _ h => h) (Or.inl ⟨by rfl, ?_⟩) hHeld ?_ ?_
  rotate_left
  · rintro w' ⟨s0, s1, s2⟩
    go_simp
    with_reducible rfl
  rotate_left
  · simp only [Act.put, List.setIfInBounds_toArray, List.set_cons_zero, List.set_cons_succ, i64_w, i32_w]
    rfl
  refine pure_ (i := 1) (N := some 134) (v := ?_) (a' := ?_) #[true, true, false, false, false, false, false] rfl rfl (by kernel_rfl) (fun _ _ _ h => h) (Or.inl ⟨by rfl, ?_⟩) ?_ ?_
  rotate_left
  · intro w'
    go_simp
    with_reducible rfl
  rotate_left
  · simp only [Act.put, List.setIfInBounds_toArray, List.set_cons_zero, List.set_cons_succ, i64_w, i32_w]
    rfl
  refine take_ (i := 2) (N := some 135) (v := ?_) (a' := ?_) #[true, true, true, false, false, false, false] rfl rfl (by kernel_rfl) (fun _ _ _ h => h) (Or.inl ⟨by rfl, ?_⟩) hHeld ?_ ?_
  rotate_left
  · rintro w' ⟨s0, s1, s2⟩
    go_simp
    with_reducible rfl
  rotate_left
  · simp only [Act.put, List.setIfInBounds_toArray, List.set_cons_zero, List.set_cons_succ, i64_w, i32_w]
    rfl
  refine pure_ (i := 3) (N := some 136) (v := ?_) (a' := ?_) #[true, true, true, true, false, false, false] rfl rfl (by kernel_rfl) (fun _ _ _ h => h) (Or.inl ⟨by rfl, ?_⟩) ?_ ?_
  rotate_left
  · intro w'
    go_simp
    with_reducible rfl
  rotate_left
  · simp only [Act.put, List.setIfInBounds_toArray, List.set_cons_zero, List.set_cons_succ, i64_w, i32_w]
    rfl
  refine one_ (i := 4) (N := none) #[true, true, true, true, true, false, false] rfl rfl (by kernel_rfl) (by decide) (fun K hK => ?_)
  obtain ⟨⟨y0, y1, y2⟩, z0, z1, z2⟩ := HT8.out.c2
  have y1' := (World.cell?_setCell_other wd2 ⟨b2, 0, none⟩ ⟨b2, 1, none⟩ (.int .i64 5) (by simp)).trans y1
  refine skip_ (w1 := laid3 wd2 b2 5 ⟨#[91]⟩) (by rfl) rfl ?_ ?_
  · go_simp
    try rfl
  refine hK.out _ _ ⟨(blk_cell HT8.out.laid7 0).trans rfl, (blk_cell HT8.out.laid7 1).trans rfl, (blk_cell HT8.out.laid7 2).trans rfl⟩ (fun hHeld1 => ?_)
  clear hK K hHeld
  refine pure_ (i := 5) (N := some 3) (v := ?_) (a' := ?_) #[true, true, true, true, true, true, false] rfl rfl (by kernel_rfl) (fun _ _ _ h => h) (Or.inl ⟨by rfl, ?_⟩) ?_ ?_
  rotate_left
  · intro w'
    go_simp
    with_reducible rfl
  rotate_left
  · simp only [Act.put, List.setIfInBounds_toArray, List.set_cons_zero, List.set_cons_succ, i64_w, i32_w]
    rfl
  refine pure_ (i := 6) (N := some 4) (v := ?_) (a' := ?_) #[true, true, true, true, true, true, true] rfl rfl (by kernel_rfl) (fun _ _ _ h => h) (Or.inl ⟨by rfl, ?_⟩) ?_ ?_
  rotate_left
  · intro w'
    go_simp
    with_reducible rfl
  rotate_left
  · simp only [Act.put, List.setIfInBounds_toArray, List.set_cons_zero, List.set_cons_succ, i64_w, i32_w]
    rfl
  refine Go.Proofs.YtlpoglkddknedaaGreatDoorW.PrintLast.done_ (by kernel_rfl) ?_
  clear y0 y1 y2 z0 z1 z2 y1' x7 hHeld1
  go_wp2
  refine bodyPost_ret (res13 rfl rfl rfl HT8.out.laid) rfl ?_
  exact ⟨by rw [HGS.out], HT8.out.laidB⟩
set_option maxRecDepth 100000 in
set_option maxHeartbeats 4000000 in
theorem tok_sign3 (W : World) (kd n gp : Int) (A : Option Addr) (c : Nat) (B : List Int) (hB : Kd.C (Kd.int .u8) W A B.length B) (hc : B.length ≤ c) (hBr : ∀ x ∈ B, 0 ≤ x ∧ x ≤ 255) (hk : 0 ≤ kd ∧ kd ≤ 255) (hn : 0 ≤ n ∧ n ≤ 255) (hg : 0 ≤ gp ∧ gp ≤ 255) (hkd : kd % 11 = 5) :
    TokA W kd n gp A B.length c 6 ⟨#[93]⟩ ⟨#[93]⟩ (gapOf gp) := by
  unfold TokA
  obtain ⟨ln, hln⟩ : ∃ ln, B.length = ln := ⟨_, rfl⟩
  rw [hln]
  clear hln
  have hk0 := hk.1
  have hk1 := hk.2
  have hn0 := hn.1
  have hn1 := hn.2
  have hg0 := hg.1
  have hg1 := hg.2
  have h60 : 0 ≤ gp % 6 := by omega
  have h66 : gp % 6 < 6 := by omega
  have hsix := six_cell ((W.alloc (.cells #[.int .u8 kd, .int .u8 n, .int .u8 gp, .slice A ln c] 46)).alloc (.cells #[.int .i64 0, .string ⟨#[]⟩, .int .i64 0] 31)) gaps rfl gp
  obtain ⟨gs, hgs⟩ : ∃ gs, gapOf gp = gs := ⟨_, rfl⟩
  rw [show gaps.getD (gp % 6).toNat ⟨#[]⟩ = gs from hgs] at hsix
  simp only [gaps, List.map_cons, List.map_nil, World.size_alloc] at hsix
  have HGS := Aside0.mk hgs
  clear hB hc hBr hk hn hg hgs
  go_enter Tryz.func13, Tryz.ntmps13
  go_upto_region 4 with (fail)
  have HT := Aside0.mk (TB.start W #[.int .u8 kd, .int .u8 n, .int .u8 gp, .slice A ln c] 6)
  simp only [gaps, List.map_cons, List.map_nil] at HT
  obtain ⟨b1, hb1⟩ : ∃ b, W.heap.size = b := ⟨_, rfl⟩
  obtain ⟨b2, hb2⟩ : ∃ b, W.heap.size + 1 = b := ⟨_, rfl⟩
  obtain ⟨b7, hb7⟩ : ∃ b, W.heap.size + 1 + 1 + 1 = b := ⟨_, rfl⟩
  obtain ⟨w4, hw4⟩ : ∃ w, (((W.alloc (.cells #[.int .u8 kd, .int .u8 n, .int .u8 gp, .slice A ln c] 46)).alloc (.cells #[.int .i64 0, .string ⟨#[]⟩, .int .i64 0] 31)).alloc (.cells #[.string ⟨#[32]⟩, .string ⟨#[10]⟩, .string ⟨#[9]⟩, .string ⟨#[13, 10]⟩, .string ⟨#[32, 32]⟩, .string ⟨#[10, 37, 112, 97, 115, 115, 101, 100, 32, 111, 118, 101, 114, 32, 34, 40, 10]⟩] 9)).alloc (.cells #[.int .i64 6, .string ⟨#[]⟩, .int .i64 0] 31) = w := ⟨_, rfl⟩
  rw [hb7, hb2, hw4] at HT
  rw [hb7, hb2, hw4]
  rw [hb1] at HT ⊢
  clear hw4 hsix
  have hex : (⟨#[46, 42, 91, 93, 40, 41]⟩ : ByteArray).extract 3 4 = ⟨#[93]⟩ := rfl
  have y1 := HT.out.c7.2.1
  have z1 := blk_frozen HT.out.h7 1
  go_upto_region 24 with (fail)
  have HT7 := Aside0.mk (HT.out.text ⟨#[93]⟩)
  obtain ⟨w7, hw7⟩ : ∃ w7, w4.setCell ⟨b7, 1, none⟩ (.string ⟨#[93]⟩) = w7 := ⟨_, rfl⟩
  rw [hw7] at HT7 ⊢
  clear hw7 HT y1 z1 hex
  go_upto_region 24 with (fail)
  have HT8 := Aside0.mk (HT7.out.below (Below.refl _ _).drew)
  have x7 := HT8.out.c7
  clear HT7
  refine start_ (n := 7) (S := fun w' => w'.cell? ⟨b7, 0, none⟩ = some (.int .i64 6) ∧ w'.cell? ⟨b7, 1, none⟩ = some (.string ⟨#[93]⟩) ∧ w'.cell? ⟨b7, 2, none⟩ = some (.int .i64 0)) (ds := []) #[false, false, false, false, false, false, false] (by kernel_rfl) rfl rfl x7 (fun hHeld => ?_)
  generalize w7.drew = wd2 at HT8 x7 hHeld ⊢
  refine take_ (i := 0) (N := some 133) (v := ?_) (a' := ?_) #[true, false, false, false, false, false, false] rfl rfl (by kernel_rfl) (fun _ _ _ h => h) (Or.inl ⟨by rfl, ?_⟩) hHeld ?_ ?_
  rotate_left
  · rintro w' ⟨s0, s1, s2⟩
    go_simp
    with_reducible rfl
  rotate_left
  · simp only [Act.put, List.setIfInBounds_toArray, List.set_cons_zero, List.set_cons_succ, i64_w, i32_w]
    rfl
  refine pure_ (i := 1) (N := some 134) (v := ?_) (a' := ?_) #[true, true, false, false, false, false, false] rfl rfl (by kernel_rfl) (fun _ _ _ h => h) (Or.inl ⟨by rfl, ?_⟩) ?_ ?_
  rotate_left
  · intro w'
    go_simp
    with_reducible rfl
  rotate_left
  · simp only [Act.put, List.setIfInBounds_toArray, List.set_cons_zero, List.set_cons_succ, i64_w, i32_w]
    rfl
  refine take_ (i := 2) (N := some 135) (v := ?_) (a' := ?_) #[true, true, true, false, false, false, false] rfl rfl (by kernel_rfl) (fun _ _ _ h => h) (Or.inl ⟨by rfl, ?_⟩) hHeld ?_ ?_
  rotate_left
  · rintro w' ⟨s0, s1, s2⟩
    go_simp
    with_reducible rfl
  rotate_left
  · simp only [Act.put, List.setIfInBounds_toArray, List.set_cons_zero, List.set_cons_succ, i64_w, i32_w]
    rfl
  refine pure_ (i := 3) (N := some 136) (v := ?_) (a' := ?_) #[true, true, true, true, false, false, false] rfl rfl (by kernel_rfl) (fun _ _ _ h => h) (Or.inl ⟨by rfl, ?_⟩) ?_ ?_
  rotate_left
  · intro w'
    go_simp
    with_reducible rfl
  rotate_left
  · simp only [Act.put, List.setIfInBounds_toArray, List.set_cons_zero, List.set_cons_succ, i64_w, i32_w]
    rfl
  refine one_ (i := 4) (N := none) #[true, true, true, true, true, false, false] rfl rfl (by kernel_rfl) (by decide) (fun K hK => ?_)
  obtain ⟨⟨y0, y1, y2⟩, z0, z1, z2⟩ := HT8.out.c2
  have y1' := (World.cell?_setCell_other wd2 ⟨b2, 0, none⟩ ⟨b2, 1, none⟩ (.int .i64 6) (by simp)).trans y1
  refine skip_ (w1 := laid3 wd2 b2 6 ⟨#[93]⟩) (by rfl) rfl ?_ ?_
  · go_simp
    try rfl
  refine hK.out _ _ ⟨(blk_cell HT8.out.laid7 0).trans rfl, (blk_cell HT8.out.laid7 1).trans rfl, (blk_cell HT8.out.laid7 2).trans rfl⟩ (fun hHeld1 => ?_)
  clear hK K hHeld
  refine pure_ (i := 5) (N := some 3) (v := ?_) (a' := ?_) #[true, true, true, true, true, true, false] rfl rfl (by kernel_rfl) (fun _ _ _ h => h) (Or.inl ⟨by rfl, ?_⟩) ?_ ?_
  rotate_left
  · intro w'
    go_simp
    with_reducible rfl
  rotate_left
  · simp only [Act.put, List.setIfInBounds_toArray, List.set_cons_zero, List.set_cons_succ, i64_w, i32_w]
    rfl
  refine pure_ (i := 6) (N := some 4) (v := ?_) (a' := ?_) #[true, true, true, true, true, true, true] rfl rfl (by kernel_rfl) (fun _ _ _ h => h) (Or.inl ⟨by rfl, ?_⟩) ?_ ?_
  rotate_left
  · intro w'
    go_simp
    with_reducible rfl
  rotate_left
  · simp only [Act.put, List.setIfInBounds_toArray, List.set_cons_zero, List.set_cons_succ, i64_w, i32_w]
    rfl
  refine Go.Proofs.YtlpoglkddknedaaGreatDoorW.PrintLast.done_ (by kernel_rfl) ?_
  clear y0 y1 y2 z0 z1 z2 y1' x7 hHeld1
  go_wp2
  refine bodyPost_ret (res13 rfl rfl rfl HT8.out.laid) rfl ?_
  exact ⟨by rw [HGS.out], HT8.out.laidB⟩
set_option maxRecDepth 100000 in
set_option maxHeartbeats 4000000 in
theorem tok_sign4 (W : World) (kd n gp : Int) (A : Option Addr) (c : Nat) (B : List Int) (hB : Kd.C (Kd.int .u8) W A B.length B) (hc : B.length ≤ c) (hBr : ∀ x ∈ B, 0 ≤ x ∧ x ≤ 255) (hk : 0 ≤ kd ∧ kd ≤ 255) (hn : 0 ≤ n ∧ n ≤ 255) (hg : 0 ≤ gp ∧ gp ≤ 255) (hkd : kd % 11 = 6) :
    TokA W kd n gp A B.length c 7 ⟨#[40]⟩ ⟨#[40]⟩ (gapOf gp) := by
  unfold TokA
  obtain ⟨ln, hln⟩ : ∃ ln, B.length = ln := ⟨_, rfl⟩
  rw [hln]
  clear hln
  have hk0 := hk.1
  have hk1 := hk.2
  have hn0 := hn.1
  have hn1 := hn.2
  have hg0 := hg.1
  have hg1 := hg.2
  have h60 : 0 ≤ gp % 6 := by omega
  have h66 : gp % 6 < 6 := by omega
  have hsix := six_cell ((W.alloc (.cells #[.int .u8 kd, .int .u8 n, .int .u8 gp, .slice A ln c] 46)).alloc (.cells #[.int .i64 0, .string ⟨#[]⟩, .int .i64 0] 31)) gaps rfl gp
  obtain ⟨gs, hgs⟩ : ∃ gs, gapOf gp = gs := ⟨_, rfl⟩
  rw [show gaps.getD (gp % 6).toNat ⟨#[]⟩ = gs from hgs] at hsix
  simp only [gaps, List.map_cons, List.map_nil, World.size_alloc] at hsix
  have HGS := Aside0.mk hgs
  clear hB hc hBr hk hn hg hgs
  go_enter Tryz.func13, Tryz.ntmps13
  go_upto_region 4 with (fail)
  have HT := Aside0.mk (TB.start W #[.int .u8 kd, .int .u8 n, .int .u8 gp, .slice A ln c] 7)
  simp only [gaps, List.map_cons, List.map_nil] at HT
  obtain ⟨b1, hb1⟩ : ∃ b, W.heap.size = b := ⟨_, rfl⟩
  obtain ⟨b2, hb2⟩ : ∃ b, W.heap.size + 1 = b := ⟨_, rfl⟩
  obtain ⟨b7, hb7⟩ : ∃ b, W.heap.size + 1 + 1 + 1 = b := ⟨_, rfl⟩
  obtain ⟨w4, hw4⟩ : ∃ w, (((W.alloc (.cells #[.int .u8 kd, .int .u8 n, .int .u8 gp, .slice A ln c] 46)).alloc (.cells #[.int .i64 0, .string ⟨#[]⟩, .int .i64 0] 31)).alloc (.cells #[.string ⟨#[32]⟩, .string ⟨#[10]⟩, .string ⟨#[9]⟩, .string ⟨#[13, 10]⟩, .string ⟨#[32, 32]⟩, .string ⟨#[10, 37, 112, 97, 115, 115, 101, 100, 32, 111, 118, 101, 114, 32, 34, 40, 10]⟩] 9)).alloc (.cells #[.int .i64 7, .string ⟨#[]⟩, .int .i64 0] 31) = w := ⟨_, rfl⟩
  rw [hb7, hb2, hw4] at HT
  rw [hb7, hb2, hw4]
  rw [hb1] at HT ⊢
  clear hw4 hsix
  have hex : (⟨#[46, 42, 91, 93, 40, 41]⟩ : ByteArray).extract 4 5 = ⟨#[40]⟩ := rfl
  have y1 := HT.out.c7.2.1
  have z1 := blk_frozen HT.out.h7 1
  go_upto_region 24 with (fail)
  have HT7 := Aside0.mk (HT.out.text ⟨#[40]⟩)
  obtain ⟨w7, hw7⟩ : ∃ w7, w4.setCell ⟨b7, 1, none⟩ (.string ⟨#[40]⟩) = w7 := ⟨_, rfl⟩
  rw [hw7] at HT7 ⊢
  clear hw7 HT y1 z1 hex
  go_upto_region 24 with (fail)
  have HT8 := Aside0.mk (HT7.out.below (Below.refl _ _).drew)
  have x7 := HT8.out.c7
  clear HT7
  refine start_ (n := 7) (S := fun w' => w'.cell? ⟨b7, 0, none⟩ = some (.int .i64 7) ∧ w'.cell? ⟨b7, 1, none⟩ = some (.string ⟨#[40]⟩) ∧ w'.cell? ⟨b7, 2, none⟩ = some (.int .i64 0)) (ds := []) #[false, false, false, false, false, false, false] (by kernel_rfl) rfl rfl x7 (fun hHeld => ?_)
  generalize w7.drew = wd2 at HT8 x7 hHeld ⊢
  refine take_ (i := 0) (N := some 133) (v := ?_) (a' := ?_) #[true, false, false, false, false, false, false] rfl rfl (by kernel_rfl) (fun _ _ _ h => h) (Or.inl ⟨by rfl, ?_⟩) hHeld ?_ ?_
  rotate_left
  · rintro w' ⟨s0, s1, s2⟩
    go_simp
    with_reducible rfl
  rotate_left
  · simp only [Act.put, List.setIfInBounds_toArray, List.set_cons_zero, List.set_cons_succ, i64_w, i32_w]
    rfl
  refine pure_ (i := 1) (N := some 134) (v := ?_) (a' := ?_) #[true, true, false, false, false, false, false] rfl rfl (by kernel_rfl) (fun _ _ _ h => h) (Or.inl ⟨by rfl, ?_⟩) ?_ ?_
  rotate_left
  · intro w'
    go_simp
    with_reducible rfl
  rotate_left
  · simp only [Act.put, List.setIfInBounds_toArray, List.set_cons_zero, List.set_cons_succ, i64_w, i32_w]
    rfl
  refine take_ (i := 2) (N := some 135) (v := ?_) (a' := ?_) #[true, true, true, false, false, false, false] rfl rfl (by kernel_rfl) (fun _ _ _ h => h) (Or.inl ⟨by rfl, ?_⟩) hHeld ?_ ?_
  rotate_left
  · rintro w' ⟨s0, s1, s2⟩
    go_simp
    with_reducible rfl
  rotate_left
  · simp only [Act.put, List.setIfInBounds_toArray, List.set_cons_zero, List.set_cons_succ, i64_w, i32_w]
    rfl
  refine pure_ (i := 3) (N := some 136) (v := ?_) (a' := ?_) #[true, true, true, true, false, false, false] rfl rfl (by kernel_rfl) (fun _ _ _ h => h) (Or.inl ⟨by rfl, ?_⟩) ?_ ?_
  rotate_left
  · intro w'
    go_simp
    with_reducible rfl
  rotate_left
  · simp only [Act.put, List.setIfInBounds_toArray, List.set_cons_zero, List.set_cons_succ, i64_w, i32_w]
    rfl
  refine one_ (i := 4) (N := none) #[true, true, true, true, true, false, false] rfl rfl (by kernel_rfl) (by decide) (fun K hK => ?_)
  obtain ⟨⟨y0, y1, y2⟩, z0, z1, z2⟩ := HT8.out.c2
  have y1' := (World.cell?_setCell_other wd2 ⟨b2, 0, none⟩ ⟨b2, 1, none⟩ (.int .i64 7) (by simp)).trans y1
  refine skip_ (w1 := laid3 wd2 b2 7 ⟨#[40]⟩) (by rfl) rfl ?_ ?_
  · go_simp
    try rfl
  refine hK.out _ _ ⟨(blk_cell HT8.out.laid7 0).trans rfl, (blk_cell HT8.out.laid7 1).trans rfl, (blk_cell HT8.out.laid7 2).trans rfl⟩ (fun hHeld1 => ?_)
  clear hK K hHeld
  refine pure_ (i := 5) (N := some 3) (v := ?_) (a' := ?_) #[true, true, true, true, true, true, false] rfl rfl (by kernel_rfl) (fun _ _ _ h => h) (Or.inl ⟨by rfl, ?_⟩) ?_ ?_
  rotate_left
  · intro w'
    go_simp
    with_reducible rfl
  rotate_left
  · simp only [Act.put, List.setIfInBounds_toArray, List.set_cons_zero, List.set_cons_succ, i64_w, i32_w]
    rfl
  refine pure_ (i := 6) (N := some 4) (v := ?_) (a' := ?_) #[true, true, true, true, true, true, true] rfl rfl (by kernel_rfl) (fun _ _ _ h => h) (Or.inl ⟨by rfl, ?_⟩) ?_ ?_
  rotate_left
  · intro w'
    go_simp
    with_reducible rfl
  rotate_left
  · simp only [Act.put, List.setIfInBounds_toArray, List.set_cons_zero, List.set_cons_succ, i64_w, i32_w]
    rfl
  refine Go.Proofs.YtlpoglkddknedaaGreatDoorW.PrintLast.done_ (by kernel_rfl) ?_
  clear y0 y1 y2 z0 z1 z2 y1' x7 hHeld1
  go_wp2
  refine bodyPost_ret (res13 rfl rfl rfl HT8.out.laid) rfl ?_
  exact ⟨by rw [HGS.out], HT8.out.laidB⟩
set_option maxRecDepth 100000 in
set_option maxHeartbeats 4000000 in
theorem tok_sign5 (W : World) (kd n gp : Int) (A : Option Addr) (c : Nat) (B : List Int) (hB : Kd.C (Kd.int .u8) W A B.length B) (hc : B.length ≤ c) (hBr : ∀ x ∈ B, 0 ≤ x ∧ x ≤ 255) (hk : 0 ≤ kd ∧ kd ≤ 255) (hn : 0 ≤ n ∧ n ≤ 255) (hg : 0 ≤ gp ∧ gp ≤ 255) (hkd : kd % 11 = 7) :
    TokA W kd n gp A B.length c 8 ⟨#[41]⟩ ⟨#[41]⟩ (gapOf gp) := by
  unfold TokA
  obtain ⟨ln, hln⟩ : ∃ ln, B.length = ln := ⟨_, rfl⟩
  rw [hln]
  clear hln
  have hk0 := hk.1
  have hk1 := hk.2
  have hn0 := hn.1
  have hn1 := hn.2
  have hg0 := hg.1
  have hg1 := hg.2
  have h60 : 0 ≤ gp % 6 := by omega
  have h66 : gp % 6 < 6 := by omega
  have hsix := six_cell ((W.alloc (.cells #[.int .u8 kd, .int .u8 n, .int .u8 gp, .slice A ln c] 46)).alloc (.cells #[.int .i64 0, .string ⟨#[]⟩, .int .i64 0] 31)) gaps rfl gp
  obtain ⟨gs, hgs⟩ : ∃ gs, gapOf gp = gs := ⟨_, rfl⟩
  rw [show gaps.getD (gp % 6).toNat ⟨#[]⟩ = gs from hgs] at hsix
  simp only [gaps, List.map_cons, List.map_nil, World.size_alloc] at hsix
  have HGS := Aside0.mk hgs
  clear hB hc hBr hk hn hg hgs
  go_enter Tryz.func13, Tryz.ntmps13
  go_upto_region 4 with (fail)
  have HT := Aside0.mk (TB.start W #[.int .u8 kd, .int .u8 n, .int .u8 gp, .slice A ln c] 8)
  simp only [gaps, List.map_cons, List.map_nil] at HT
  obtain ⟨b1, hb1⟩ : ∃ b, W.heap.size = b := ⟨_, rfl⟩
  obtain ⟨b2, hb2⟩ : ∃ b, W.heap.size + 1 = b := ⟨_, rfl⟩
  obtain ⟨b7, hb7⟩ : ∃ b, W.heap.size + 1 + 1 + 1 = b := ⟨_, rfl⟩
  obtain ⟨w4, hw4⟩ : ∃ w, (((W.alloc (.cells #[.int .u8 kd, .int .u8 n, .int .u8 gp, .slice A ln c] 46)).alloc (.cells #[.int .i64 0, .string ⟨#[]⟩, .int .i64 0] 31)).alloc (.cells #[.string ⟨#[32]⟩, .string ⟨#[10]⟩, .string ⟨#[9]⟩, .string ⟨#[13, 10]⟩, .string ⟨#[32, 32]⟩, .string ⟨#[10, 37, 112, 97, 115, 115, 101, 100, 32, 111, 118, 101, 114, 32, 34, 40, 10]⟩] 9)).alloc (.cells #[.int .i64 8, .string ⟨#[]⟩, .int .i64 0] 31) = w := ⟨_, rfl⟩
  rw [hb7, hb2, hw4] at HT
  rw [hb7, hb2, hw4]
  rw [hb1] at HT ⊢
  clear hw4 hsix
  have hex : (⟨#[46, 42, 91, 93, 40, 41]⟩ : ByteArray).extract 5 6 = ⟨#[41]⟩ := rfl
  have y1 := HT.out.c7.2.1
  have z1 := blk_frozen HT.out.h7 1
  go_upto_region 24 with (fail)
  have HT7 := Aside0.mk (HT.out.text ⟨#[41]⟩)
  obtain ⟨w7, hw7⟩ : ∃ w7, w4.setCell ⟨b7, 1, none⟩ (.string ⟨#[41]⟩) = w7 := ⟨_, rfl⟩
  rw [hw7] at HT7 ⊢
  clear hw7 HT y1 z1 hex
  go_upto_region 24 with (fail)
  have HT8 := Aside0.mk (HT7.out.below (Below.refl _ _).drew)
  have x7 := HT8.out.c7
  clear HT7
  refine start_ (n := 7) (S := fun w' => w'.cell? ⟨b7, 0, none⟩ = some (.int .i64 8) ∧ w'.cell? ⟨b7, 1, none⟩ = some (.string ⟨#[41]⟩) ∧ w'.cell? ⟨b7, 2, none⟩ = some (.int .i64 0)) (ds := []) #[false, false, false, false, false, false, false] (by kernel_rfl) rfl rfl x7 (fun hHeld => ?_)
  generalize w7.drew = wd2 at HT8 x7 hHeld ⊢
  refine take_ (i := 0) (N := some 133) (v := ?_) (a' := ?_) #[true, false, false, false, false, false, false] rfl rfl (by kernel_rfl) (fun _ _ _ h => h) (Or.inl ⟨by rfl, ?_⟩) hHeld ?_ ?_
  rotate_left
  · rintro w' ⟨s0, s1, s2⟩
    go_simp
    with_reducible rfl
  rotate_left
  · simp only [Act.put, List.setIfInBounds_toArray, List.set_cons_zero, List.set_cons_succ, i64_w, i32_w]
    rfl
  refine pure_ (i := 1) (N := some 134) (v := ?_) (a' := ?_) #[true, true, false, false, false, false, false] rfl rfl (by kernel_rfl) (fun _ _ _ h => h) (Or.inl ⟨by rfl, ?_⟩) ?_ ?_
  rotate_left
  · intro w'
    go_simp
    with_reducible rfl
  rotate_left
  · simp only [Act.put, List.setIfInBounds_toArray, List.set_cons_zero, List.set_cons_succ, i64_w, i32_w]
    rfl
  refine take_ (i := 2) (N := some 135) (v := ?_) (a' := ?_) #[true, true, true, false, false, false, false] rfl rfl (by kernel_rfl) (fun _ _ _ h => h) (Or.inl ⟨by rfl, ?_⟩) hHeld ?_ ?_
  rotate_left
  · rintro w' ⟨s0, s1, s2⟩
    go_simp
    with_reducible rfl
  rotate_left
  · simp only [Act.put, List.setIfInBounds_toArray, List.set_cons_zero, List.set_cons_succ, i64_w, i32_w]
    rfl
  refine pure_ (i := 3) (N := some 136) (v := ?_) (a' := ?_) #[true, true, true, true, false, false, false] rfl rfl (by kernel_rfl) (fun _ _ _ h => h) (Or.inl ⟨by rfl, ?_⟩) ?_ ?_
  rotate_left
  · intro w'
    go_simp
    with_reducible rfl
  rotate_left
  · simp only [Act.put, List.setIfInBounds_toArray, List.set_cons_zero, List.set_cons_succ, i64_w, i32_w]
    rfl
  refine one_ (i := 4) (N := none) #[true, true, true, true, true, false, false] rfl rfl (by kernel_rfl) (by decide) (fun K hK => ?_)
  obtain ⟨⟨y0, y1, y2⟩, z0, z1, z2⟩ := HT8.out.c2
  have y1' := (World.cell?_setCell_other wd2 ⟨b2, 0, none⟩ ⟨b2, 1, none⟩ (.int .i64 8) (by simp)).trans y1
  refine skip_ (w1 := laid3 wd2 b2 8 ⟨#[41]⟩) (by rfl) rfl ?_ ?_
  · go_simp
    try rfl
  refine hK.out _ _ ⟨(blk_cell HT8.out.laid7 0).trans rfl, (blk_cell HT8.out.laid7 1).trans rfl, (blk_cell HT8.out.laid7 2).trans rfl⟩ (fun hHeld1 => ?_)
  clear hK K hHeld
  refine pure_ (i := 5) (N := some 3) (v := ?_) (a' := ?_) #[true, true, true, true, true, true, false] rfl rfl (by kernel_rfl) (fun _ _ _ h => h) (Or.inl ⟨by rfl, ?_⟩) ?_ ?_
  rotate_left
  · intro w'
    go_simp
    with_reducible rfl
  rotate_left
  · simp only [Act.put, List.setIfInBounds_toArray, List.set_cons_zero, List.set_cons_succ, i64_w, i32_w]
    rfl
  refine pure_ (i := 6) (N := some 4) (v := ?_) (a' := ?_) #[true, true, true, true, true, true, true] rfl rfl (by kernel_rfl) (fun _ _ _ h => h) (Or.inl ⟨by rfl, ?_⟩) ?_ ?_
  rotate_left
  · intro w'
    go_simp
    with_reducible rfl
  rotate_left
  · simp only [Act.put, List.setIfInBounds_toArray, List.set_cons_zero, List.set_cons_succ, i64_w, i32_w]
    rfl
  refine Go.Proofs.YtlpoglkddknedaaGreatDoorW.PrintLast.done_ (by kernel_rfl) ?_
  clear y0 y1 y2 z0 z1 z2 y1' x7 hHeld1
  go_wp2
  refine bodyPost_ret (res13 rfl rfl rfl HT8.out.laid) rfl ?_
  exact ⟨by rw [HGS.out], HT8.out.laidB⟩
end Go.Proofs.YtlpoglkddknedaaGreatDoor.R

namespace Go.Proofs.YtlpoglkddknedaaGreatDoor.R
open Go.RowKit Go.Lib Go.Proofs.YtlpoglkddknedaaGreatDoor.T Go.Proofs.YtlpoglkddknedaaGreatDoor.H Go.Proofs.YtlpoglkddknedaaGreatDoorW.PrintWords Go.Proofs.YtlpoglkddknedaaGreatDoorW.PrintLast
set_option linter.unusedVariables false
set_option linter.unusedSimpArgs false
def firstS : ByteArray := ⟨#[97, 98, 99, 100, 101, 102, 103, 104, 105, 106, 107, 108, 109, 110, 111, 112, 113, 114, 115, 116, 117, 118, 119, 120, 121, 122, 65, 66, 67, 68, 69, 70, 71, 72, 73, 74, 75, 76, 77, 78, 79, 80, 81, 82, 83, 84, 85, 86, 87, 88, 89, 90, 48, 49, 50, 51, 52, 53, 54, 55, 56, 57]⟩
def laterS : ByteArray := ⟨#[97, 98, 99, 100, 101, 102, 103, 104, 105, 106, 107, 108, 109, 110, 111, 112, 113, 114, 115, 116, 117, 118, 119, 120, 121, 122, 65, 66, 67, 68, 69, 70, 71, 72, 73, 74, 75, 76, 77, 78, 79, 80, 81, 82, 83, 84, 85, 86, 87, 88, 89, 90, 48, 49, 50, 51, 52, 53, 54, 55, 56, 57, 95, 43, 35, 61, 58, 45, 47]⟩
def firstOf (n : Int) : ByteArray := ⟨#[firstS.data.getD (n % 62).toNat 0]⟩
theorem first_ext (i : Nat) (h : i < 62) : (firstS.extract i 62).extract 0 1 = ⟨#[firstS.data.getD i 0]⟩ := by
  have : ∀ i : Fin 62, (firstS.extract i.val 62).extract 0 1 = ⟨#[firstS.data.getD i.val 0]⟩ := by decide +kernel
  exact this ⟨i, h⟩
set_option maxRecDepth 100000 in
set_option maxHeartbeats 4000000 in
theorem tok_sym (W : World) (kd n gp : Int) (A : Option Addr) (c : Nat) (B : List Int) (hB : Kd.C (Kd.int .u8) W A B.length B) (hc : B.length ≤ c) (hBr : ∀ x ∈ B, 0 ≤ x ∧ x ≤ 255) (hk : 0 ≤ kd ∧ kd ≤ 255) (hn : 0 ≤ n ∧ n ≤ 255) (hg : 0 ≤ gp ∧ gp ≤ 255) (hkd : kd % 11 = 1) (text : ByteArray) (htx : lettersF B laterS 254 = some text) (hts : text.size ≤ 254) :
    TokA W kd n gp A B.length c 2 (firstOf n ++ text) (firstOf n ++ text) (gapOf gp) := by
  unfold TokA
  obtain ⟨ln, hln⟩ : ∃ ln, B.length = ln := ⟨_, rfl⟩
  have HLT := Aside0.mk (show ∀ w, Below W.heap.size W w → Calls Tryz.prog 26 #[.slice A ln c, .string ⟨#[97, 98, 99, 100, 101, 102, 103, 104, 105, 106, 107, 108, 109, 110, 111, 112, 113, 114, 115, 116, 117, 118, 119, 120, 121, 122, 65, 66, 67, 68, 69, 70, 71, 72, 73, 74, 75, 76, 77, 78, 79, 80, 81, 82, 83, 84, 85, 86, 87, 88, 89, 90, 48, 49, 50, 51, 52, 53, 54, 55, 56, 57, 95, 43, 35, 61, 58, 45, 47]⟩, .int .i64 254] w fun e w' => e = .returned (.string text) ∧ Below w.heap.size w w' from fun w hb => by
    rw [← hln]; exact letters_calls A c B laterS 254 text w (Kd.C_below hB hb) hc htx)
  obtain ⟨i, hi⟩ : ∃ i : Nat, (n % 62).toNat = i := ⟨_, rfl⟩
  have hi62 : i < 62 := by omega
  obtain ⟨fs, hfs⟩ : ∃ fs, firstOf n = fs := ⟨_, rfl⟩
  have hex : ((⟨#[97, 98, 99, 100, 101, 102, 103, 104, 105, 106, 107, 108, 109, 110, 111, 112, 113, 114, 115, 116, 117, 118, 119, 120, 121, 122, 65, 66, 67, 68, 69, 70, 71, 72, 73, 74, 75, 76, 77, 78, 79, 80, 81, 82, 83, 84, 85, 86, 87, 88, 89, 90, 48, 49, 50, 51, 52, 53, 54, 55, 56, 57]⟩ : ByteArray).extract i 62).extract 0 1 = fs := by rw [← hfs]; unfold firstOf; rw [hi]; exact first_ext i hi62
  have hes : ((⟨#[97, 98, 99, 100, 101, 102, 103, 104, 105, 106, 107, 108, 109, 110, 111, 112, 113, 114, 115, 116, 117, 118, 119, 120, 121, 122, 65, 66, 67, 68, 69, 70, 71, 72, 73, 74, 75, 76, 77, 78, 79, 80, 81, 82, 83, 84, 85, 86, 87, 88, 89, 90, 48, 49, 50, 51, 52, 53, 54, 55, 56, 57]⟩ : ByteArray).extract i 62).size = 62 - i := by rw [ByteArray.size_extract]; show min 62 62 - i = _; omega
  have hwn : wrap64 n = n := IntWalk.wrap64_in n (by omega)
  have htm : n.tmod 62 = (i : Int) := by rw [Int.tmod_eq_emod_of_nonneg hn.1]; omega
  have pi : ((i : Int) ≤ 62) = True := eq_true (by omega)
  have p1 : ((1 : Int) ≤ ((62 - i : Nat) : Int)) = True := eq_true (by omega)
  have hfz : fs.size = 1 := by rw [← hfs]; rfl
  have psz2 : (9223372036854775807 < 1 + text.size) = False := eq_false (by omega)
  have psz : (9223372036854775807 < fs.size + text.size) = False := eq_false (by omega)
  rw [hln, hfs]
  clear htx hts hfs hln hi
  have hk0 := hk.1
  have hk1 := hk.2
  have hn0 := hn.1
  have hn1 := hn.2
  have hg0 := hg.1
  have hg1 := hg.2
  have h60 : 0 ≤ gp % 6 := by omega
  have h66 : gp % 6 < 6 := by omega
  have hsix := six_cell ((W.alloc (.cells #[.int .u8 kd, .int .u8 n, .int .u8 gp, .slice A ln c] 46)).alloc (.cells #[.int .i64 0, .string ⟨#[]⟩, .int .i64 0] 31)) gaps rfl gp
  obtain ⟨gs, hgs⟩ : ∃ gs, gapOf gp = gs := ⟨_, rfl⟩
  rw [show gaps.getD (gp % 6).toNat ⟨#[]⟩ = gs from hgs] at hsix
  simp only [gaps, List.map_cons, List.map_nil, World.size_alloc] at hsix
  have HGS := Aside0.mk hgs
  clear hB hc hBr hk hn hg hgs
  go_enter Tryz.func13, Tryz.ntmps13
  go_upto_region 4 with (fail)
  have HT := Aside0.mk (TB.start W #[.int .u8 kd, .int .u8 n, .int .u8 gp, .slice A ln c] 2)
  simp only [gaps, List.map_cons, List.map_nil] at HT
  obtain ⟨b1, hb1⟩ : ∃ b, W.heap.size = b := ⟨_, rfl⟩
  obtain ⟨b2, hb2⟩ : ∃ b, W.heap.size + 1 = b := ⟨_, rfl⟩
  obtain ⟨b7, hb7⟩ : ∃ b, W.heap.size + 1 + 1 + 1 = b := ⟨_, rfl⟩
  obtain ⟨w4, hw4⟩ : ∃ w, (((W.alloc (.cells #[.int .u8 kd, .int .u8 n, .int .u8 gp, .slice A ln c] 46)).alloc (.cells #[.int .i64 0, .string ⟨#[]⟩, .int .i64 0] 31)).alloc (.cells #[.string ⟨#[32]⟩, .string ⟨#[10]⟩, .string ⟨#[9]⟩, .string ⟨#[13, 10]⟩, .string ⟨#[32, 32]⟩, .string ⟨#[10, 37, 112, 97, 115, 115, 101, 100, 32, 111, 118, 101, 114, 32, 34, 40, 10]⟩] 9)).alloc (.cells #[.int .i64 2, .string ⟨#[]⟩, .int .i64 0] 31) = w := ⟨_, rfl⟩
  rw [hb7, hb2, hw4] at HT
  rw [hb7, hb2, hw4]
  rw [hb1] at HT ⊢
  clear hw4 hsix
  go_upto_region 9 with (fail)
  have HT := Aside0.mk (HT.out.below (Below.refl _ _).drew)
  have x1 : w4.drew.cell? ⟨b1, 1, none⟩ = some (.int .u8 n) := (blk_cell HT.out.h1 1).trans rfl
  have x3 : w4.drew.cell? ⟨b1, 3, none⟩ = some (.slice A ln c) := (blk_cell HT.out.h1 3).trans rfl
  refine start_ (n := 12) (S := fun w' => w'.cell? ⟨b1, 1, none⟩ = some (.int .u8 n) ∧ w'.cell? ⟨b1, 3, none⟩ = some (.slice A ln c)) (ds := [11]) #[false, false, false, false, false, false, false, false, false, false, false, false] (by kernel_rfl) rfl rfl ⟨x1, x3⟩ (fun hHeld => ?_)
  generalize w4.drew = wd at HT x1 x3 hHeld ⊢
  refine pure_ (i := 0) (N := some 40) (v := ?_) (a' := ?_) #[true, false, false, false, false, false, false, false, false, false, false, false] rfl rfl (by kernel_rfl) (fun _ _ _ h => h) (Or.inl ⟨by rfl, ?_⟩) ?_ ?_
  rotate_left
  · intro w'
    go_simp
    with_reducible rfl
  rotate_left
  · simp only [Act.put, List.setIfInBounds_toArray, List.set_cons_zero, List.set_cons_succ, i64_w, i32_w]
    rfl
  refine take_ (i := 1) (N := some 41) (v := ?_) (a' := ?_) #[true, true, false, false, false, false, false, false, false, false, false, false] rfl rfl (by kernel_rfl) (fun _ _ _ h => h) (Or.inl ⟨by rfl, ?_⟩) hHeld ?_ ?_
  rotate_left
  · rintro w' ⟨s0, s1⟩
    go_simp
    with_reducible rfl
  rotate_left
  · simp only [Act.put, List.setIfInBounds_toArray, List.set_cons_zero, List.set_cons_succ, i64_w, i32_w]
    rfl
  refine pure_ (i := 2) (N := some 42) (v := ?_) (a' := ?_) #[true, true, true, false, false, false, false, false, false, false, false, false] rfl rfl (by kernel_rfl) (fun _ _ _ h => h) (Or.inl ⟨by rfl, ?_⟩) ?_ ?_
  rotate_left
  · intro w'
    go_simp
    with_reducible rfl
  rotate_left
  · simp only [Act.put, List.setIfInBounds_toArray, List.set_cons_zero, List.set_cons_succ, i64_w, i32_w]
    rfl
  refine pure_ (i := 3) (N := some 43) (v := ?_) (a' := ?_) #[true, true, true, true, false, false, false, false, false, false, false, false] rfl rfl (by kernel_rfl) (fun _ _ _ h => h) (Or.inl ⟨by rfl, ?_⟩) ?_ ?_
  rotate_left
  · intro w'
    go_simp
    with_reducible rfl
  rotate_left
  · simp only [Act.put, List.setIfInBounds_toArray, List.set_cons_zero, List.set_cons_succ, i64_w, i32_w]
    rfl
  refine pure_ (i := 4) (N := some 44) (v := ?_) (a' := ?_) #[true, true, true, true, true, false, false, false, false, false, false, false] rfl rfl (by kernel_rfl) (fun _ _ _ h => h) (Or.inl ⟨by rfl, ?_⟩) ?_ ?_
  rotate_left
  · intro w'
    go_simp
    with_reducible rfl
  rotate_left
  · simp only [Act.put, List.setIfInBounds_toArray, List.set_cons_zero, List.set_cons_succ, i64_w, i32_w]
    rfl
  refine pure_ (i := 5) (N := some 45) (v := ?_) (a' := ?_) #[true, true, true, true, true, true, false, false, false, false, false, false] rfl rfl (by kernel_rfl) (fun _ _ _ h => h) (Or.inl ⟨by rfl, ?_⟩) ?_ ?_
  rotate_left
  · intro w'
    go_simp
    with_reducible rfl
  rotate_left
  · simp only [Act.put, List.setIfInBounds_toArray, List.set_cons_zero, List.set_cons_succ, i64_w, i32_w]
    rfl
  refine pure_ (i := 6) (N := some 46) (v := ?_) (a' := ?_) #[true, true, true, true, true, true, true, false, false, false, false, false] rfl rfl (by kernel_rfl) (fun _ _ _ h => h) (Or.inl ⟨by rfl, ?_⟩) ?_ ?_
  rotate_left
  · intro w'
    go_simp
    with_reducible rfl
  rotate_left
  · simp only [Act.put, List.setIfInBounds_toArray, List.set_cons_zero, List.set_cons_succ, i64_w, i32_w]
    rfl
  refine take_ (i := 7) (N := some 47) (v := ?_) (a' := ?_) #[true, true, true, true, true, true, true, true, false, false, false, false] rfl rfl (by kernel_rfl) (fun _ _ _ h => h) (Or.inl ⟨by rfl, ?_⟩) hHeld ?_ ?_
  rotate_left
  · rintro w' ⟨s0, s1⟩
    go_simp
    with_reducible rfl
  rotate_left
  · simp only [Act.put, List.setIfInBounds_toArray, List.set_cons_zero, List.set_cons_succ, i64_w, i32_w]
    rfl
  refine one_ (i := 8) (N := some 48) #[true, true, true, true, true, true, true, true, true, false, false, false] rfl rfl (by kernel_rfl) (by decide) (fun K hK => ?_)
  refine goes_ Tryz.func26 (by kernel_rfl) rfl #[.slice A ln c, .string ⟨#[97, 98, 99, 100, 101, 102, 103, 104, 105, 106, 107, 108, 109, 110, 111, 112, 113, 114, 115, 116, 117, 118, 119, 120, 121, 122, 65, 66, 67, 68, 69, 70, 71, 72, 73, 74, 75, 76, 77, 78, 79, 80, 81, 82, 83, 84, 85, 86, 87, 88, 89, 90, 48, 49, 50, 51, 52, 53, 54, 55, 56, 57, 95, 43, 35, 61, 58, 45, 47]⟩, .int .i64 254] (by rfl) rfl rfl (by first | (simp only [List.map_toArray, List.map_cons, List.map_nil]; done) | (simp only [List.map_toArray, List.map_cons, List.map_nil]; rfl)) ?_
  with_reducible refine (HLT.out _ HT.out.bl).mono ?_
  rintro e w5 ⟨rfl, hb5⟩
  refine ⟨_, rfl, ?_⟩
  have HT5 := Aside0.mk (HT.out.below hb5)
  clear hb5 HT
  refine hK.out _ _ ⟨(blk_cell HT5.out.h1 1).trans rfl, (blk_cell HT5.out.h1 3).trans rfl⟩ (fun hHeld1 => ?_)
  clear hK K hHeld
  refine norm_ (a' := ?_) ?_ ?_
  rotate_left
  · show Act.put _ (some 48) _ = _
    simp only [Act.put, List.setIfInBounds_toArray, List.set_cons_zero, List.set_cons_succ, i64_w, i32_w]
    rfl
  refine pure_ (i := 9) (N := some 49) (v := ?_) (a' := ?_) #[true, true, true, true, true, true, true, true, true, true, false, false] rfl rfl (by kernel_rfl) (fun _ _ _ h => h) (Or.inl ⟨by rfl, ?_⟩) ?_ ?_
  rotate_left
  · intro w'
    go_simp
    with_reducible rfl
  rotate_left
  · simp only [Act.put, List.setIfInBounds_toArray, List.set_cons_zero, List.set_cons_succ, i64_w, i32_w]
    rfl
  refine pure_ (i := 10) (N := some 50) (v := ?_) (a' := ?_) #[true, true, true, true, true, true, true, true, true, true, true, false] rfl rfl (by kernel_rfl) (fun _ _ _ h => h) (Or.inl ⟨by rfl, ?_⟩) ?_ ?_
  rotate_left
  · intro w'
    go_simp
    with_reducible rfl
  rotate_left
  · simp only [Act.put, List.setIfInBounds_toArray, List.set_cons_zero, List.set_cons_succ, i64_w, i32_w]
    rfl
  refine last_ (i := 11) (N := none) #[true, true, true, true, true, true, true, true, true, true, true, true] rfl rfl (by kernel_rfl) (by decide) (fun K hK => ?_)
  have y1 : w5.cell? ⟨b7, 1, none⟩ = some (.string ⟨#[]⟩) := HT5.out.c7.2.1
  have z1 : w5.frozen? ⟨b7, 1, none⟩ = false := blk_frozen HT5.out.h7 1
  refine skip_ (w1 := w5.setCell ⟨b7, 1, none⟩ (.string (fs ++ text))) (by rfl) rfl ?_ ?_
  · go_simp
    try rfl
  refine hK.out _ _ ?_
  clear hK K
  refine Go.Proofs.YtlpoglkddknedaaGreatDoorW.PrintLast.done_ (by kernel_rfl) ?_
  clear y1 z1 x1 x3 hHeld1 hex hes hwn htm pi psz
  have HT7 := Aside0.mk (HT5.out.text (fs ++ text))
  clear HT5 HLT
  obtain ⟨w7, hw7⟩ : ∃ w7, w5.setCell ⟨b7, 1, none⟩ (.string (fs ++ text)) = w7 := ⟨_, rfl⟩
  rw [hw7] at HT7 ⊢
  clear hw7
  obtain ⟨tx, htx⟩ : ∃ tx, fs ++ text = tx := ⟨_, rfl⟩
  have HTX := Aside0.mk htx
  rw [htx] at HT7 ⊢
  clear htx
  go_upto_region 10 with (fail)
  have HT8 := Aside0.mk (HT7.out.below (Below.refl _ _).drew)
  have x7 := HT8.out.c7
  clear HT7
  refine start_ (n := 7) (S := fun w' => w'.cell? ⟨b7, 0, none⟩ = some (.int .i64 2) ∧ w'.cell? ⟨b7, 1, none⟩ = some (.string tx) ∧ w'.cell? ⟨b7, 2, none⟩ = some (.int .i64 0)) (ds := []) #[false, false, false, false, false, false, false] (by kernel_rfl) rfl rfl x7 (fun hHeld => ?_)
  generalize w7.drew = wd2 at HT8 x7 hHeld ⊢
  refine take_ (i := 0) (N := some 51) (v := ?_) (a' := ?_) #[true, false, false, false, false, false, false] rfl rfl (by kernel_rfl) (fun _ _ _ h => h) (Or.inl ⟨by rfl, ?_⟩) hHeld ?_ ?_
  rotate_left
  · rintro w' ⟨s0, s1, s2⟩
    go_simp
    with_reducible rfl
  rotate_left
  · simp only [Act.put, List.setIfInBounds_toArray, List.set_cons_zero, List.set_cons_succ, i64_w, i32_w]
    rfl
  refine pure_ (i := 1) (N := some 52) (v := ?_) (a' := ?_) #[true, true, false, false, false, false, false] rfl rfl (by kernel_rfl) (fun _ _ _ h => h) (Or.inl ⟨by rfl, ?_⟩) ?_ ?_
  rotate_left
  · intro w'
    go_simp
    with_reducible rfl
  rotate_left
  · simp only [Act.put, List.setIfInBounds_toArray, List.set_cons_zero, List.set_cons_succ, i64_w, i32_w]
    rfl
  refine take_ (i := 2) (N := some 53) (v := ?_) (a' := ?_) #[true, true, true, false, false, false, false] rfl rfl (by kernel_rfl) (fun _ _ _ h => h) (Or.inl ⟨by rfl, ?_⟩) hHeld ?_ ?_
  rotate_left
  · rintro w' ⟨s0, s1, s2⟩
    go_simp
    with_reducible rfl
  rotate_left
  · simp only [Act.put, List.setIfInBounds_toArray, List.set_cons_zero, List.set_cons_succ, i64_w, i32_w]
    rfl
  refine pure_ (i := 3) (N := some 54) (v := ?_) (a' := ?_) #[true, true, true, true, false, false, false] rfl rfl (by kernel_rfl) (fun _ _ _ h => h) (Or.inl ⟨by rfl, ?_⟩) ?_ ?_
  rotate_left
  · intro w'
    go_simp
    with_reducible rfl
  rotate_left
  · simp only [Act.put, List.setIfInBounds_toArray, List.set_cons_zero, List.set_cons_succ, i64_w, i32_w]
    rfl
  refine one_ (i := 4) (N := none) #[true, true, true, true, true, false, false] rfl rfl (by kernel_rfl) (by decide) (fun K hK => ?_)
  obtain ⟨⟨y0, y1, y2⟩, z0, z1, z2⟩ := HT8.out.c2
  have y1' := (World.cell?_setCell_other wd2 ⟨b2, 0, none⟩ ⟨b2, 1, none⟩ (.int .i64 2) (by simp)).trans y1
  refine skip_ (w1 := laid3 wd2 b2 2 tx) (by rfl) rfl ?_ ?_
  · go_simp
    try rfl
  refine hK.out _ _ ⟨(blk_cell HT8.out.laid7 0).trans rfl, (blk_cell HT8.out.laid7 1).trans rfl, (blk_cell HT8.out.laid7 2).trans rfl⟩ (fun hHeld1 => ?_)
  clear hK K hHeld
  refine pure_ (i := 5) (N := some 3) (v := ?_) (a' := ?_) #[true, true, true, true, true, true, false] rfl rfl (by kernel_rfl) (fun _ _ _ h => h) (Or.inl ⟨by rfl, ?_⟩) ?_ ?_
  rotate_left
  · intro w'
    go_simp
    with_reducible rfl
  rotate_left
  · simp only [Act.put, List.setIfInBounds_toArray, List.set_cons_zero, List.set_cons_succ, i64_w, i32_w]
    rfl
  refine pure_ (i := 6) (N := some 4) (v := ?_) (a' := ?_) #[true, true, true, true, true, true, true] rfl rfl (by kernel_rfl) (fun _ _ _ h => h) (Or.inl ⟨by rfl, ?_⟩) ?_ ?_
  rotate_left
  · intro w'
    go_simp
    with_reducible rfl
  rotate_left
  · simp only [Act.put, List.setIfInBounds_toArray, List.set_cons_zero, List.set_cons_succ, i64_w, i32_w]
    rfl
  refine Go.Proofs.YtlpoglkddknedaaGreatDoorW.PrintLast.done_ (by kernel_rfl) ?_
  clear y0 y1 y2 z0 z1 z2 y1' x7 hHeld1
  go_wp2
  refine bodyPost_ret (res13 rfl rfl rfl HT8.out.laid) rfl ?_
  exact ⟨by rw [HGS.out, HTX.out], HT8.out.laidB⟩
end Go.Proofs.YtlpoglkddknedaaGreatDoor.R

namespace Go.Proofs.YtlpoglkddknedaaGreatDoor.R
open Go.RowKit Go.Lib Go.Proofs.YtlpoglkddknedaaGreatDoor.T Go.Proofs.YtlpoglkddknedaaGreatDoor.H Go.Proofs.YtlpoglkddknedaaGreatDoorW.PrintWords Go.Proofs.YtlpoglkddknedaaGreatDoorW.PrintLast
set_option linter.unusedVariables false
set_option linter.unusedSimpArgs false
def digS : ByteArray := ⟨#[48, 49, 50, 51, 52, 53, 54, 55, 56, 57]⟩
theorem litN (w : World) (b : Nat) (hb : b ≤ w.heap.size) (n : Int) : Kd.R (Kd.int .u8) 5 (w.alloc (.cells #[.int .u8 n] 5)) b (fun _ => True) (.slice (some ⟨w.heap.size, 0, none⟩) 1 1) [n] :=
  ⟨fun _ _ => trivial, [.int .u8 n], ⟨rfl, .inr ⟨w.heap.size, 1, #[.int .u8 n], rfl, hb, blk_new w _, Nat.le_refl _, by decide, rfl, rfl⟩⟩, ⟨rfl, fun j p hj => by
    match j, hj with
    | 0, hj => obtain rfl := Option.some.inj hj; rfl⟩⟩
set_option maxRecDepth 100000 in
set_option maxHeartbeats 4000000 in
theorem tok_gly (W : World) (kd n gp : Int) (A : Option Addr) (c : Nat) (B : List Int) (hB : Kd.C (Kd.int .u8) W A B.length B) (hc : B.length ≤ c) (hBr : ∀ x ∈ B, 0 ≤ x ∧ x ≤ 255) (hk : 0 ≤ kd ∧ kd ≤ 255) (hn : 0 ≤ n ∧ n ≤ 255) (hg : 0 ≤ gp ∧ gp ≤ 255) (hkd : kd % 11 = 8) (text : ByteArray) (htx : lettersF (n :: B) digS (1 + n % 3) = some text) (hts : text.size ≤ 3) (hBl : B.length ≤ 140737488351232) :
    TokA W kd n gp A B.length c 9 text (⟨#[36]⟩ ++ text) (gapOf gp) := by
  unfold TokA
  obtain ⟨ln, hln⟩ : ∃ ln, B.length = ln := ⟨_, rfl⟩
  have HLT := Aside0.mk (show ∀ w A' c', Kd.C (Kd.int .u8) w A' (ln + 1) (n :: B) → ln + 1 ≤ c' → Calls Tryz.prog 26 #[.slice A' (ln + 1) c', .string ⟨#[48, 49, 50, 51, 52, 53, 54, 55, 56, 57]⟩, .int .i64 (wrap64 (1 + n % 3))] w fun e w' => e = .returned (.string text) ∧ Below w.heap.size w w' from fun w A' c' hC' hc' => by
    rw [IntWalk.wrap64_in (1 + n % 3) (by omega)]; rw [← hln] at hC' hc' ⊢; exact letters_calls A' c' (n :: B) digS (1 + n % 3) text w hC' hc' htx)
  have HBC := Aside0.mk (show ∀ w, Below W.heap.size W w → Kd.C (Kd.int .u8) w A ln B from fun w hb => by rw [← hln]; exact Kd.C_below hB hb)
  have hlen2 : (([n] : List Int) ++ B).length = ln + 1 := by rw [List.length_append, hln]; simp; omega
  have HLE := Aside0.mk hlen2
  have hln2 : ln ≤ 140737488351232 := by omega
  have htm : n.tmod 3 = n % 3 := Int.tmod_eq_emod_of_nonneg hn.1
  have hw3 : wrap64 (n % 3) = n % 3 := IntWalk.wrap64_in _ (by omega)
  have hts2 := hts
  have psz : (9223372036854775807 < 1 + text.size) = False := eq_false (by omega)
  rw [hln]
  clear htx hts hln hlen2 hBl
  have hk0 := hk.1
  have hk1 := hk.2
  have hn0 := hn.1
  have hn1 := hn.2
  have hg0 := hg.1
  have hg1 := hg.2
  have h60 : 0 ≤ gp % 6 := by omega
  have h66 : gp % 6 < 6 := by omega
  have hsix := six_cell ((W.alloc (.cells #[.int .u8 kd, .int .u8 n, .int .u8 gp, .slice A ln c] 46)).alloc (.cells #[.int .i64 0, .string ⟨#[]⟩, .int .i64 0] 31)) gaps rfl gp
  obtain ⟨gs, hgs⟩ : ∃ gs, gapOf gp = gs := ⟨_, rfl⟩
  rw [show gaps.getD (gp % 6).toNat ⟨#[]⟩ = gs from hgs] at hsix
  simp only [gaps, List.map_cons, List.map_nil, World.size_alloc] at hsix
  have HGS := Aside0.mk hgs
  clear hB hc hBr hk hn hg hgs
  go_enter Tryz.func13, Tryz.ntmps13
  go_upto_region 4 with (fail)
  have HT := Aside0.mk (TB.start W #[.int .u8 kd, .int .u8 n, .int .u8 gp, .slice A ln c] 9)
  simp only [gaps, List.map_cons, List.map_nil] at HT
  obtain ⟨b1, hb1⟩ : ∃ b, W.heap.size = b := ⟨_, rfl⟩
  obtain ⟨b2, hb2⟩ : ∃ b, W.heap.size + 1 = b := ⟨_, rfl⟩
  obtain ⟨b7, hb7⟩ : ∃ b, W.heap.size + 1 + 1 + 1 = b := ⟨_, rfl⟩
  obtain ⟨w4, hw4⟩ : ∃ w, (((W.alloc (.cells #[.int .u8 kd, .int .u8 n, .int .u8 gp, .slice A ln c] 46)).alloc (.cells #[.int .i64 0, .string ⟨#[]⟩, .int .i64 0] 31)).alloc (.cells #[.string ⟨#[32]⟩, .string ⟨#[10]⟩, .string ⟨#[9]⟩, .string ⟨#[13, 10]⟩, .string ⟨#[32, 32]⟩, .string ⟨#[10, 37, 112, 97, 115, 115, 101, 100, 32, 111, 118, 101, 114, 32, 34, 40, 10]⟩] 9)).alloc (.cells #[.int .i64 9, .string ⟨#[]⟩, .int .i64 0] 31) = w := ⟨_, rfl⟩
  rw [hb7, hb2, hw4] at HT
  rw [hb7, hb2, hw4]
  rw [hb1] at HT ⊢
  clear hw4 hsix
  go_upto_region 12 with (fail)
  have HT := Aside0.mk (HT.out.below (Below.refl _ _).drew)
  have x1 : w4.drew.cell? ⟨b1, 1, none⟩ = some (.int .u8 n) := (blk_cell HT.out.h1 1).trans rfl
  have x3 : w4.drew.cell? ⟨b1, 3, none⟩ = some (.slice A ln c) := (blk_cell HT.out.h1 3).trans rfl
  refine start_ (n := 14) (S := fun w' => w'.cell? ⟨b1, 1, none⟩ = some (.int .u8 n) ∧ w'.cell? ⟨b1, 3, none⟩ = some (.slice A ln c)) (ds := [13]) #[false, false, false, false, false, false, false, false, false, false, false, false, false, false] (by kernel_rfl) rfl rfl ⟨x1, x3⟩ (fun hHeld => ?_)
  generalize w4.drew = wd at HT x1 x3 hHeld ⊢
  refine pure_ (i := 0) (N := some 57) (v := ?_) (a' := ?_) #[true, false, false, false, false, false, false, false, false, false, false, false, false, false] rfl rfl (by kernel_rfl) (fun _ _ _ h => h) (Or.inl ⟨by rfl, ?_⟩) ?_ ?_
  rotate_left
  · intro w'
    go_simp
    with_reducible rfl
  rotate_left
  · simp only [Act.put, List.setIfInBounds_toArray, List.set_cons_zero, List.set_cons_succ, i64_w, i32_w]
    rfl
  refine take_ (i := 1) (N := some 58) (v := ?_) (a' := ?_) #[true, true, false, false, false, false, false, false, false, false, false, false, false, false] rfl rfl (by kernel_rfl) (fun _ _ _ h => h) (Or.inl ⟨by rfl, ?_⟩) hHeld ?_ ?_
  rotate_left
  · rintro w' ⟨s0, s1⟩
    go_simp
    with_reducible rfl
  rotate_left
  · simp only [Act.put, List.setIfInBounds_toArray, List.set_cons_zero, List.set_cons_succ, i64_w, i32_w]
    rfl
  refine pure_ (i := 3) (N := some 60) (v := ?_) (a' := ?_) #[true, true, false, true, false, false, false, false, false, false, false, false, false, false] rfl rfl (by kernel_rfl) (fun _ _ _ h => h) (Or.inl ⟨by rfl, ?_⟩) ?_ ?_
  rotate_left
  · intro w'
    go_simp
    with_reducible rfl
  rotate_left
  · simp only [Act.put, List.setIfInBounds_toArray, List.set_cons_zero, List.set_cons_succ, i64_w, i32_w]
    rfl
  refine take_ (i := 4) (N := some 61) (v := ?_) (a' := ?_) #[true, true, false, true, true, false, false, false, false, false, false, false, false, false] rfl rfl (by kernel_rfl) (fun _ _ _ h => h) (Or.inl ⟨by rfl, ?_⟩) hHeld ?_ ?_
  rotate_left
  · rintro w' ⟨s0, s1⟩
    go_simp
    with_reducible rfl
  rotate_left
  · simp only [Act.put, List.setIfInBounds_toArray, List.set_cons_zero, List.set_cons_succ, i64_w, i32_w]
    rfl
  refine pure_ (i := 6) (N := some 63) (v := ?_) (a' := ?_) #[true, true, false, true, true, false, true, false, false, false, false, false, false, false] rfl rfl (by kernel_rfl) (fun _ _ _ h => h) (Or.inl ⟨by rfl, ?_⟩) ?_ ?_
  rotate_left
  · intro w'
    go_simp
    with_reducible rfl
  rotate_left
  · simp only [Act.put, List.setIfInBounds_toArray, List.set_cons_zero, List.set_cons_succ, i64_w, i32_w]
    rfl
  refine take_ (i := 7) (N := some 64) (v := ?_) (a' := ?_) #[true, true, false, true, true, false, true, true, false, false, false, false, false, false] rfl rfl (by kernel_rfl) (fun _ _ _ h => h) (Or.inl ⟨by rfl, ?_⟩) hHeld ?_ ?_
  rotate_left
  · rintro w' ⟨s0, s1⟩
    go_simp
    with_reducible rfl
  rotate_left
  · simp only [Act.put, List.setIfInBounds_toArray, List.set_cons_zero, List.set_cons_succ, i64_w, i32_w]
    rfl
  refine pure_ (i := 8) (N := some 65) (v := ?_) (a' := ?_) #[true, true, false, true, true, false, true, true, true, false, false, false, false, false] rfl rfl (by kernel_rfl) (fun _ _ _ h => h) (Or.inl ⟨by rfl, ?_⟩) ?_ ?_
  rotate_left
  · intro w'
    go_simp
    with_reducible rfl
  rotate_left
  · simp only [Act.put, List.setIfInBounds_toArray, List.set_cons_zero, List.set_cons_succ, i64_w, i32_w]
    rfl
  refine pure_ (i := 9) (N := some 66) (v := ?_) (a' := ?_) #[true, true, false, true, true, false, true, true, true, true, false, false, false, false] rfl rfl (by kernel_rfl) (fun _ _ _ h => h) (Or.inl ⟨by rfl, ?_⟩) ?_ ?_
  rotate_left
  · intro w'
    go_simp
    with_reducible rfl
  rotate_left
  · simp only [Act.put, List.setIfInBounds_toArray, List.set_cons_zero, List.set_cons_succ, i64_w, i32_w]
    rfl
  refine pure_ (i := 10) (N := some 67) (v := ?_) (a' := ?_) #[true, true, false, true, true, false, true, true, true, true, true, false, false, false] rfl rfl (by kernel_rfl) (fun _ _ _ h => h) (Or.inl ⟨by rfl, ?_⟩) ?_ ?_
  rotate_left
  · intro w'
    go_simp
    with_reducible rfl
  rotate_left
  · simp only [Act.put, List.setIfInBounds_toArray, List.set_cons_zero, List.set_cons_succ, i64_w, i32_w]
    rfl
  refine one_ (i := 2) (N := some 59) #[true, true, true, true, true, false, true, true, true, true, true, false, false, false] rfl rfl (by kernel_rfl) (by decide) (fun K hK => ?_)
  have hb : Below wd.heap.size wd (wd.alloc (.cells #[.int .u8 n] 5)) := (Below.refl _ _).alloc (Nat.le_refl _) _
  refine value_ (w1 := wd.alloc (.cells #[.int .u8 n] 5)) (v := .slice (some ⟨wd.heap.size, 0, none⟩) 1 1) (by rfl) rfl ?_ ?_
  · go_simp
    try rfl
  have HL := Aside0.mk (litN wd wd.heap.size (Nat.le_refl _) n)
  have HT5 := Aside0.mk (HT.out.below hb)
  have HB5 := Aside0.mk hb
  clear hb
  refine hK.out _ _ ⟨(blk_cell HT5.out.h1 1).trans rfl, (blk_cell HT5.out.h1 3).trans rfl⟩ (fun hHeld1 => ?_)
  clear hK K hHeld
  refine norm_ (a' := ?_) ?_ ?_
  rotate_left
  · show Act.put _ (some 59) _ = _
    simp only [Act.put, List.setIfInBounds_toArray, List.set_cons_zero, List.set_cons_succ, i64_w, i32_w]
    rfl
  refine one_ (i := 5) (N := some 62) #[true, true, true, true, true, true, true, true, true, true, true, false, false, false] rfl rfl (by kernel_rfl) (by decide) (fun K hK => ?_)
  refine Kd.R_append_rows_step (Kd.int .u8) (w0 := wd) wd.heap.size (by rfl) (.tmp 59) (.tmp 61) 42 5 (.int .u8 0) 1 rfl Tryz.underlying42 H.info5 rfl (by decide) (by decide) (.slice (some ⟨wd.heap.size, 0, none⟩) 1 1) [n] B A ln c (fun _ => True) (fun _ => False) (by rfl) (by rfl) ?aO ?aR (fun _ _ h => h) (fun _ h => h.elim) ?aF ?aB ?aS ?aL ?_
  case aO => exact HL.out
  case aR => exact HBC.out _ HT5.out.bl
  case aF => exact fun _ _ => trivial
  case aB => exact HB5.out
  case aS => exact HB5.out.size
  case aL => show (1 + ln) * 1 ≤ _; omega
  intro v6 w6 ho hb6 hg6 hat6
  obtain ⟨A6, c6, e6⟩ := Kd.R_slice ho
  rw [HLE.out] at e6
  subst e6
  have HT6 := Aside0.mk (HT.out.below hb6)
  have HC6 := Aside0.mk (show Kd.C (Kd.int .u8) w6 A6 (ln + 1) (n :: B) ∧ ln + 1 ≤ c6 from by
    have h := Kd.R_reads' ho
    rw [HLE.out] at h
    exact ⟨h.2.2, h.2.1⟩)
  clear ho hb6 hg6 hat6 HL HB5 HT5 HT
  refine hK.out _ _ ⟨(blk_cell HT6.out.h1 1).trans rfl, (blk_cell HT6.out.h1 3).trans rfl⟩ (fun hHeld2 => ?_)
  clear hK K hHeld1
  refine norm_ (a' := ?_) ?_ ?_
  rotate_left
  · show Act.put _ (some 62) _ = _
    simp only [Act.put, List.setIfInBounds_toArray, List.set_cons_zero, List.set_cons_succ, i64_w, i32_w]
    rfl
  refine one_ (i := 11) (N := some 68) #[true, true, true, true, true, true, true, true, true, true, true, true, false, false] rfl rfl (by kernel_rfl) (by decide) (fun K hK => ?_)
  refine goes_ Tryz.func26 (by kernel_rfl) rfl #[.slice A6 (ln + 1) c6, .string ⟨#[48, 49, 50, 51, 52, 53, 54, 55, 56, 57]⟩, .int .i64 (wrap64 (1 + n % 3))] (by rfl) rfl rfl (by first | (simp only [List.map_toArray, List.map_cons, List.map_nil]; done) | (simp only [List.map_toArray, List.map_cons, List.map_nil]; rfl)) ?_
  with_reducible refine (HLT.out w6 A6 c6 HC6.out.1 HC6.out.2).mono ?_
  rintro e w7 ⟨rfl, hb7_⟩
  refine ⟨_, rfl, ?_⟩
  have HT9 := Aside0.mk (HT6.out.below hb7_)
  clear hb7_ HT6 HC6
  refine hK.out _ _ ⟨(blk_cell HT9.out.h1 1).trans rfl, (blk_cell HT9.out.h1 3).trans rfl⟩ (fun hHeld3 => ?_)
  clear hK K hHeld2
  refine norm_ (a' := ?_) ?_ ?_
  rotate_left
  · show Act.put _ (some 68) _ = _
    simp only [Act.put, List.setIfInBounds_toArray, List.set_cons_zero, List.set_cons_succ, i64_w, i32_w]
    rfl
  refine pure_ (i := 12) (N := some 69) (v := ?_) (a' := ?_) #[true, true, true, true, true, true, true, true, true, true, true, true, true, false] rfl rfl (by kernel_rfl) (fun _ _ _ h => h) (Or.inl ⟨by rfl, ?_⟩) ?_ ?_
  rotate_left
  · intro w'
    go_simp
    with_reducible rfl
  rotate_left
  · simp only [Act.put, List.setIfInBounds_toArray, List.set_cons_zero, List.set_cons_succ, i64_w, i32_w]
    rfl
  refine last_ (i := 13) (N := none) #[true, true, true, true, true, true, true, true, true, true, true, true, true, true] rfl rfl (by kernel_rfl) (by decide) (fun K hK => ?_)
  have y1 : w7.cell? ⟨b7, 1, none⟩ = some (.string ⟨#[]⟩) := HT9.out.c7.2.1
  have z1 : w7.frozen? ⟨b7, 1, none⟩ = false := blk_frozen HT9.out.h7 1
  refine skip_ (w1 := w7.setCell ⟨b7, 1, none⟩ (.string text)) (by rfl) rfl ?_ ?_
  · go_simp
    try rfl
  refine hK.out _ _ ?_
  clear hK K
  refine Go.Proofs.YtlpoglkddknedaaGreatDoorW.PrintLast.done_ (by kernel_rfl) ?_
  clear y1 z1 x1 x3 hHeld3 htm
  have HT7 := Aside0.mk (HT9.out.text text)
  clear HT9 HLT HBC
  obtain ⟨w8, hw8⟩ : ∃ w8, w7.setCell ⟨b7, 1, none⟩ (.string text) = w8 := ⟨_, rfl⟩
  rw [hw8] at HT7 ⊢
  clear hw8
  go_upto_region 13 with (fail)
  have HT8 := Aside0.mk (HT7.out.below (Below.refl _ _).drew)
  have x7 := HT8.out.c7
  clear HT7
  refine start_ (n := 8) (S := fun w' => w'.cell? ⟨b7, 0, none⟩ = some (.int .i64 9) ∧ w'.cell? ⟨b7, 1, none⟩ = some (.string text) ∧ w'.cell? ⟨b7, 2, none⟩ = some (.int .i64 0)) (ds := []) #[false, false, false, false, false, false, false, false] (by kernel_rfl) rfl rfl x7 (fun hHeld => ?_)
  generalize w8.drew = wd2 at HT8 x7 hHeld ⊢
  refine take_ (i := 0) (N := some 70) (v := ?_) (a' := ?_) #[true, false, false, false, false, false, false, false] rfl rfl (by kernel_rfl) (fun _ _ _ h => h) (Or.inl ⟨by rfl, ?_⟩) hHeld ?_ ?_
  rotate_left
  · rintro w' ⟨s0, s1, s2⟩
    go_simp
    with_reducible rfl
  rotate_left
  · simp only [Act.put, List.setIfInBounds_toArray, List.set_cons_zero, List.set_cons_succ, i64_w, i32_w]
    rfl
  refine pure_ (i := 1) (N := some 71) (v := ?_) (a' := ?_) #[true, true, false, false, false, false, false, false] rfl rfl (by kernel_rfl) (fun _ _ _ h => h) (Or.inl ⟨by rfl, ?_⟩) ?_ ?_
  rotate_left
  · intro w'
    go_simp
    with_reducible rfl
  rotate_left
  · simp only [Act.put, List.setIfInBounds_toArray, List.set_cons_zero, List.set_cons_succ, i64_w, i32_w]
    rfl
  refine take_ (i := 2) (N := some 72) (v := ?_) (a' := ?_) #[true, true, true, false, false, false, false, false] rfl rfl (by kernel_rfl) (fun _ _ _ h => h) (Or.inl ⟨by rfl, ?_⟩) hHeld ?_ ?_
  rotate_left
  · rintro w' ⟨s0, s1, s2⟩
    go_simp
    with_reducible rfl
  rotate_left
  · simp only [Act.put, List.setIfInBounds_toArray, List.set_cons_zero, List.set_cons_succ, i64_w, i32_w]
    rfl
  refine pure_ (i := 3) (N := some 73) (v := ?_) (a' := ?_) #[true, true, true, true, false, false, false, false] rfl rfl (by kernel_rfl) (fun _ _ _ h => h) (Or.inl ⟨by rfl, ?_⟩) ?_ ?_
  rotate_left
  · intro w'
    go_simp
    with_reducible rfl
  rotate_left
  · simp only [Act.put, List.setIfInBounds_toArray, List.set_cons_zero, List.set_cons_succ, i64_w, i32_w]
    rfl
  refine pure_ (i := 4) (N := some 74) (v := ?_) (a' := ?_) #[true, true, true, true, true, false, false, false] rfl rfl (by kernel_rfl) (fun _ _ _ h => h) (Or.inl ⟨by rfl, ?_⟩) ?_ ?_
  rotate_left
  · intro w'
    go_simp
    with_reducible rfl
  rotate_left
  · simp only [Act.put, List.setIfInBounds_toArray, List.set_cons_zero, List.set_cons_succ, i64_w, i32_w]
    rfl
  refine one_ (i := 5) (N := none) #[true, true, true, true, true, true, false, false] rfl rfl (by kernel_rfl) (by decide) (fun K hK => ?_)
  obtain ⟨⟨y0, y1, y2⟩, z0, z1, z2⟩ := HT8.out.c2
  have y1' := (World.cell?_setCell_other wd2 ⟨b2, 0, none⟩ ⟨b2, 1, none⟩ (.int .i64 9) (by simp)).trans y1
  refine skip_ (w1 := laid3 wd2 b2 9 text) (by rfl) rfl ?_ ?_
  · go_simp
    try rfl
  refine hK.out _ _ ⟨(blk_cell HT8.out.laid7 0).trans rfl, (blk_cell HT8.out.laid7 1).trans rfl, (blk_cell HT8.out.laid7 2).trans rfl⟩ (fun hHeld1 => ?_)
  clear hK K hHeld
  refine pure_ (i := 6) (N := some 3) (v := ?_) (a' := ?_) #[true, true, true, true, true, true, true, false] rfl rfl (by kernel_rfl) (fun _ _ _ h => h) (Or.inl ⟨by rfl, ?_⟩) ?_ ?_
  rotate_left
  · intro w'
    go_simp
    with_reducible rfl
  rotate_left
  · simp only [Act.put, List.setIfInBounds_toArray, List.set_cons_zero, List.set_cons_succ, i64_w, i32_w]
    rfl
  refine pure_ (i := 7) (N := some 4) (v := ?_) (a' := ?_) #[true, true, true, true, true, true, true, true] rfl rfl (by kernel_rfl) (fun _ _ _ h => h) (Or.inl ⟨by rfl, ?_⟩) ?_ ?_
  rotate_left
  · intro w'
    go_simp
    with_reducible rfl
  rotate_left
  · simp only [Act.put, List.setIfInBounds_toArray, List.set_cons_zero, List.set_cons_succ, i64_w, i32_w]
    rfl
  refine Go.Proofs.YtlpoglkddknedaaGreatDoorW.PrintLast.done_ (by kernel_rfl) ?_
  clear y0 y1 y2 z0 z1 z2 y1' x7 hHeld1
  go_wp2
  refine bodyPost_ret (res13 rfl rfl rfl HT8.out.laid) rfl ?_
  exact ⟨by rw [HGS.out], HT8.out.laidB⟩
end Go.Proofs.YtlpoglkddknedaaGreatDoor.R

namespace Go.Proofs.YtlpoglkddknedaaGreatDoor.R
open Go.RowKit Go.Lib Go.Proofs.YtlpoglkddknedaaGreatDoor.T Go.Proofs.YtlpoglkddknedaaGreatDoor.H Go.Proofs.YtlpoglkddknedaaGreatDoorW.PrintWords Go.Proofs.YtlpoglkddknedaaGreatDoorW.PrintLast
set_option linter.unusedVariables false
set_option linter.unusedSimpArgs false
def u8s (L : List Int) : List UInt8 := L.map fun x => x.toNat.toUInt8
theorem conv_C {w : World} {A : Option Addr} {q c : Nat} {L : List Int} (h : Kd.C (Kd.int .u8) w A q L) (hL : ∀ x ∈ L, 0 ≤ x ∧ x ≤ 255) (hA : A = none → c = 0) : (convert 42 9 (.slice A q c)).run Tryz.prog w = .ok (.string ⟨(u8s L).toArray⟩) w := by
  have hq := Kd.C_len h
  cases A with
  | none =>
    have h0 : ¬ 0 < q := fun hp => by obtain ⟨ad, e, _⟩ := h.2.2 hp; cases e
    obtain rfl : q = 0 := by omega
    obtain rfl : L = [] := List.eq_nil_of_length_eq_zero hq
    obtain rfl := hA rfl
    exact run_convert_nil_bytes w 42 9 5 0 Tryz.underlying42 Tryz.underlying5 Tryz.underlying9
  | some ad =>
    have hl : (u8s L).length = q := by rw [u8s, List.length_map, hq]
    rw [← hl]
    refine run_convert_bytes_back w 42 9 5 ad c (u8s L) Tryz.underlying42 Tryz.underlying5 Tryz.underlying9 (fun j hj => ?_)
    have hjl : j < L.length := by rw [hq, ← hl]; exact hj
    obtain ⟨ad', e, hc⟩ := h.2.2 (by omega)
    obtain rfl := Option.some.inj e
    obtain ⟨cs, _, hK, hcell⟩ := hc j L[j] (List.getElem?_eq_getElem hjl)
    obtain rfl : cs = [.int .u8 L[j]] := hK
    have h1 := hcell 0 _ rfl
    rw [show (Kd.int .u8).sz = 1 from rfl, Nat.mul_one, Nat.add_zero] at h1
    rw [h1]
    have hb := hL L[j] (List.getElem_mem _)
    have e2 : (u8s L)[j] = L[j].toNat.toUInt8 := by simp [u8s]
    rw [e2]
    congr 2
    show L[j] = ((L[j].toNat % 256 : Nat) : Int)
    omega
theorem trim_le (gp : Int) : (⟨(Lib.trimLeftB (gapOf gp).data.toList 10).toArray⟩ : ByteArray).size ≤ 1000 := by
  have h : ∀ i : Fin 6, (⟨(Lib.trimLeftB (gaps.getD i.val ⟨#[]⟩).data.toList 10).toArray⟩ : ByteArray).size ≤ 1000 := by decide +kernel
  exact h ⟨(gp % 6).toNat, by omega⟩
def comText (B : List Int) (o r : UInt8) : ByteArray := ⟨(Lib.replaceAll (u8s (B.take 300)) [o] [r]).toArray⟩
theorem repl_all (B : List Int) (o r : UInt8) (m : Int) (w : World) (hm : w.cell? ⟨0, 0, none⟩ = some (.int .i64 m)) : Calls Tryz.prog 30 #[.string ⟨(u8s (B.take 300)).toArray⟩, .string ⟨#[o]⟩, .string ⟨#[r]⟩] w fun e w' => e = .returned (.string (comText B o r)) ∧ Below w.heap.size w w' := by
  have hs : (⟨(u8s (B.take 300)).toArray⟩ : ByteArray).size ≤ 300 := by
    show (u8s (B.take 300)).toArray.size ≤ 300
    rw [List.size_toArray, u8s, List.length_map, List.length_take]; omega
  have hc := Lib.countB_le (⟨#[o]⟩ : ByteArray) (Nat.le_refl 1) _ (⟨(u8s (B.take 300)).toArray⟩ : ByteArray) (Nat.le_refl _)
  exact Tryz.strings_ReplaceAll ⟨(u8s (B.take 300)).toArray⟩ ⟨#[o]⟩ ⟨#[r]⟩ m w (by omega) hm (Nat.le_refl 1) (by
    show _ + _ * 1 ≤ _
    omega)
set_option maxRecDepth 100000 in
set_option maxHeartbeats 4000000 in
theorem tok_com0 (W : World) (kd n gp : Int) (A : Option Addr) (c : Nat) (B : List Int) (hB : Kd.C (Kd.int .u8) W A B.length B) (hc : B.length ≤ c) (hBr : ∀ x ∈ B, 0 ≤ x ∧ x ≤ 255) (hk : 0 ≤ kd ∧ kd ≤ 255) (hn : 0 ≤ n ∧ n ≤ 255) (hg : 0 ≤ gp ∧ gp ≤ 255) (hkd : kd % 11 = 9) (mm : Int) (hmm : W.cell? ⟨0, 0, none⟩ = some (.int .i64 mm)) (hA : A = none → c = 0) (hts : (comText B 125 41).size ≤ 1000) (hn2 : n % 2 = 0) :
    TokA W kd n gp A B.length c 10 (comText B 125 41) (⟨#[123]⟩ ++ comText B 125 41 ++ ⟨#[125]⟩) (gapOf gp) := by
  unfold TokA
  obtain ⟨ln, hln⟩ : ∃ ln, B.length = ln := ⟨_, rfl⟩
  obtain ⟨q, hq⟩ : ∃ q, (B.take 300).length = q := ⟨_, rfl⟩
  have hql : min (ln : Int) 300 = (q : Int) := by rw [← hq, ← hln, List.length_take]; omega
  have hqc : q ≤ c := by rw [← hq, List.length_take]; omega
  have pq : ((q : Int) ≤ (c : Int)) = True := eq_true (by omega)
  have HCV := Aside0.mk (show ∀ w, Below W.heap.size W w → (convert 42 9 (.slice A q c)).run Tryz.prog w = .ok (.string ⟨(u8s (B.take 300)).toArray⟩) w from fun w hb => by
    have h := Kd.C_take (m := q) (Kd.C_below hB hb) (by rw [← hq, List.length_take]; omega)
    have e : B.take q = B.take 300 := by rw [List.take_eq_take_iff, ← hq, List.length_take]; omega
    rw [e, hq] at h
    exact conv_C h (fun x hx => hBr x (List.mem_of_mem_take hx)) hA)
  obtain ⟨bs, hbs⟩ : ∃ bs, (⟨(u8s (B.take 300)).toArray⟩ : ByteArray) = bs := ⟨_, rfl⟩
  obtain ⟨text, htx⟩ : ∃ text, comText B 125 41 = text := ⟨_, rfl⟩
  have HRA := Aside0.mk (show ∀ w, Below W.heap.size W w → Calls Tryz.prog 30 #[.string bs, .string ⟨#[125]⟩, .string ⟨#[41]⟩] w fun e w' => e = .returned (.string text) ∧ Below w.heap.size w w' from fun w hb => by
    rw [← hbs, ← htx]; exact repl_all B 125 41 mm w (keepC hmm hb))
  rw [hbs] at HCV
  rw [htx] at hts
  have pz1 : (9223372036854775807 < 1 + text.size) = False := eq_false (by omega)
  have pz2 : (9223372036854775807 < 1 + text.size + 1) = False := eq_false (by omega)
  rw [hln, htx]
  clear hln hq hbs htx hts hmm hA
  have hk0 := hk.1
  have hk1 := hk.2
  have hn0 := hn.1
  have hn1 := hn.2
  have hg0 := hg.1
  have hg1 := hg.2
  have h60 : 0 ≤ gp % 6 := by omega
  have h66 : gp % 6 < 6 := by omega
  have hsix := six_cell ((W.alloc (.cells #[.int .u8 kd, .int .u8 n, .int .u8 gp, .slice A ln c] 46)).alloc (.cells #[.int .i64 0, .string ⟨#[]⟩, .int .i64 0] 31)) gaps rfl gp
  obtain ⟨gs, hgs⟩ : ∃ gs, gapOf gp = gs := ⟨_, rfl⟩
  rw [show gaps.getD (gp % 6).toNat ⟨#[]⟩ = gs from hgs] at hsix
  simp only [gaps, List.map_cons, List.map_nil, World.size_alloc] at hsix
  have HGS := Aside0.mk hgs
  clear hB hc hBr hk hn hg hgs
  go_enter Tryz.func13, Tryz.ntmps13
  go_upto_region 4 with (fail)
  have HT := Aside0.mk (TB.start W #[.int .u8 kd, .int .u8 n, .int .u8 gp, .slice A ln c] 10)
  simp only [gaps, List.map_cons, List.map_nil] at HT
  obtain ⟨b1, hb1⟩ : ∃ b, W.heap.size = b := ⟨_, rfl⟩
  obtain ⟨b2, hb2⟩ : ∃ b, W.heap.size + 1 = b := ⟨_, rfl⟩
  obtain ⟨b7, hb7⟩ : ∃ b, W.heap.size + 1 + 1 + 1 = b := ⟨_, rfl⟩
  obtain ⟨w4, hw4⟩ : ∃ w, (((W.alloc (.cells #[.int .u8 kd, .int .u8 n, .int .u8 gp, .slice A ln c] 46)).alloc (.cells #[.int .i64 0, .string ⟨#[]⟩, .int .i64 0] 31)).alloc (.cells #[.string ⟨#[32]⟩, .string ⟨#[10]⟩, .string ⟨#[9]⟩, .string ⟨#[13, 10]⟩, .string ⟨#[32, 32]⟩, .string ⟨#[10, 37, 112, 97, 115, 115, 101, 100, 32, 111, 118, 101, 114, 32, 34, 40, 10]⟩] 9)).alloc (.cells #[.int .i64 10, .string ⟨#[]⟩, .int .i64 0] 31) = w := ⟨_, rfl⟩
  rw [hb7, hb2, hw4] at HT
  rw [hb7, hb2, hw4]
  rw [hb1] at HT ⊢
  clear hw4 hsix
  have qn : (n % 2 == 0) = true := beq_iff_eq.2 hn2
  have x1 : w4.cell? ⟨b1, 1, none⟩ = some (.int .u8 n) := (blk_cell HT.out.h1 1).trans rfl
  have x3 : w4.cell? ⟨b1, 3, none⟩ = some (.slice A ln c) := (blk_cell HT.out.h1 3).trans rfl
  have hcv := HCV.out w4 HT.out.bl
  have HRW := Aside0.mk (HRA.out w4 HT.out.bl)
  clear HCV HRA
  go_upto_region 17 with (first
    | (go_at_call 30; (with_reducible refine HRW.out.mono ?_); rintro e w5 ⟨rfl, hb5⟩; have HT5 := Aside0.mk (HT.out.below hb5); have y1 : w5.cell? ⟨b7, 1, none⟩ = some (.string ⟨#[]⟩) := HT5.out.c7.2.1; have z1 : w5.frozen? ⟨b7, 1, none⟩ = false := blk_frozen HT5.out.h7 1; clear hb5))
  have HT7 := Aside0.mk (HT5.out.text text)
  obtain ⟨w7, hw7⟩ : ∃ w7, w5.setCell ⟨b7, 1, none⟩ (.string text) = w7 := ⟨_, rfl⟩
  rw [hw7] at HT7 ⊢
  clear hw7 HT5 HT x1 x3 hcv HRW y1 z1 qn pq hql
  go_upto_region 17 with (fail)
  have HT8 := Aside0.mk (HT7.out.below (Below.refl _ _).drew)
  have x7 := HT8.out.c7
  clear HT7
  refine start_ (n := 9) (S := fun w' => w'.cell? ⟨b7, 0, none⟩ = some (.int .i64 10) ∧ w'.cell? ⟨b7, 1, none⟩ = some (.string text) ∧ w'.cell? ⟨b7, 2, none⟩ = some (.int .i64 0)) (ds := []) #[false, false, false, false, false, false, false, false, false] (by kernel_rfl) rfl rfl x7 (fun hHeld => ?_)
  generalize w7.drew = wd2 at HT8 x7 hHeld ⊢
  refine take_ (i := 0) (N := some 91) (v := ?_) (a' := ?_) #[true, false, false, false, false, false, false, false, false] rfl rfl (by kernel_rfl) (fun _ _ _ h => h) (Or.inl ⟨by rfl, ?_⟩) hHeld ?_ ?_
  rotate_left
  · rintro w' ⟨s0, s1, s2⟩
    go_simp
    with_reducible rfl
  rotate_left
  · simp only [Act.put, List.setIfInBounds_toArray, List.set_cons_zero, List.set_cons_succ, i64_w, i32_w]
    rfl
  refine pure_ (i := 1) (N := some 92) (v := ?_) (a' := ?_) #[true, true, false, false, false, false, false, false, false] rfl rfl (by kernel_rfl) (fun _ _ _ h => h) (Or.inl ⟨by rfl, ?_⟩) ?_ ?_
  rotate_left
  · intro w'
    go_simp
    with_reducible rfl
  rotate_left
  · simp only [Act.put, List.setIfInBounds_toArray, List.set_cons_zero, List.set_cons_succ, i64_w, i32_w]
    rfl
  refine take_ (i := 2) (N := some 93) (v := ?_) (a' := ?_) #[true, true, true, false, false, false, false, false, false] rfl rfl (by kernel_rfl) (fun _ _ _ h => h) (Or.inl ⟨by rfl, ?_⟩) hHeld ?_ ?_
  rotate_left
  · rintro w' ⟨s0, s1, s2⟩
    go_simp
    with_reducible rfl
  rotate_left
  · simp only [Act.put, List.setIfInBounds_toArray, List.set_cons_zero, List.set_cons_succ, i64_w, i32_w]
    rfl
  refine pure_ (i := 3) (N := some 94) (v := ?_) (a' := ?_) #[true, true, true, true, false, false, false, false, false] rfl rfl (by kernel_rfl) (fun _ _ _ h => h) (Or.inl ⟨by rfl, ?_⟩) ?_ ?_
  rotate_left
  · intro w'
    go_simp
    with_reducible rfl
  rotate_left
  · simp only [Act.put, List.setIfInBounds_toArray, List.set_cons_zero, List.set_cons_succ, i64_w, i32_w]
    rfl
  refine pure_ (i := 4) (N := some 95) (v := ?_) (a' := ?_) #[true, true, true, true, true, false, false, false, false] rfl rfl (by kernel_rfl) (fun _ _ _ h => h) (Or.inl ⟨by rfl, ?_⟩) ?_ ?_
  rotate_left
  · intro w'
    go_simp
    with_reducible rfl
  rotate_left
  · simp only [Act.put, List.setIfInBounds_toArray, List.set_cons_zero, List.set_cons_succ, i64_w, i32_w]
    rfl
  refine pure_ (i := 5) (N := some 96) (v := ?_) (a' := ?_) #[true, true, true, true, true, true, false, false, false] rfl rfl (by kernel_rfl) (fun _ _ _ h => h) (Or.inl ⟨by rfl, ?_⟩) ?_ ?_
  rotate_left
  · intro w'
    go_simp
    with_reducible rfl
  rotate_left
  · simp only [Act.put, List.setIfInBounds_toArray, List.set_cons_zero, List.set_cons_succ, i64_w, i32_w]
    rfl
  refine one_ (i := 6) (N := none) #[true, true, true, true, true, true, true, false, false] rfl rfl (by kernel_rfl) (by decide) (fun K hK => ?_)
  obtain ⟨⟨y0, y1, y2⟩, z0, z1, z2⟩ := HT8.out.c2
  have y1' := (World.cell?_setCell_other wd2 ⟨b2, 0, none⟩ ⟨b2, 1, none⟩ (.int .i64 10) (by simp)).trans y1
  refine skip_ (w1 := laid3 wd2 b2 10 text) (by rfl) rfl ?_ ?_
  · go_simp
    try rfl
  refine hK.out _ _ ⟨(blk_cell HT8.out.laid7 0).trans rfl, (blk_cell HT8.out.laid7 1).trans rfl, (blk_cell HT8.out.laid7 2).trans rfl⟩ (fun hHeld1 => ?_)
  clear hK K hHeld
  refine pure_ (i := 7) (N := some 3) (v := ?_) (a' := ?_) #[true, true, true, true, true, true, true, true, false] rfl rfl (by kernel_rfl) (fun _ _ _ h => h) (Or.inl ⟨by rfl, ?_⟩) ?_ ?_
  rotate_left
  · intro w'
    go_simp
    with_reducible rfl
  rotate_left
  · simp only [Act.put, List.setIfInBounds_toArray, List.set_cons_zero, List.set_cons_succ, i64_w, i32_w]
    rfl
  refine pure_ (i := 8) (N := some 4) (v := ?_) (a' := ?_) #[true, true, true, true, true, true, true, true, true] rfl rfl (by kernel_rfl) (fun _ _ _ h => h) (Or.inl ⟨by rfl, ?_⟩) ?_ ?_
  rotate_left
  · intro w'
    go_simp
    with_reducible rfl
  rotate_left
  · simp only [Act.put, List.setIfInBounds_toArray, List.set_cons_zero, List.set_cons_succ, i64_w, i32_w]
    rfl
  refine Go.Proofs.YtlpoglkddknedaaGreatDoorW.PrintLast.done_ (by kernel_rfl) ?_
  clear y0 y1 y2 z0 z1 z2 y1' x7 hHeld1
  go_wp2
  refine bodyPost_ret (res13 rfl rfl rfl HT8.out.laid) rfl ?_
  exact ⟨by rw [HGS.out], HT8.out.laidB⟩
set_option maxRecDepth 100000 in
set_option maxHeartbeats 4000000 in
theorem tok_com1 (W : World) (kd n gp : Int) (A : Option Addr) (c : Nat) (B : List Int) (hB : Kd.C (Kd.int .u8) W A B.length B) (hc : B.length ≤ c) (hBr : ∀ x ∈ B, 0 ≤ x ∧ x ≤ 255) (hk : 0 ≤ kd ∧ kd ≤ 255) (hn : 0 ≤ n ∧ n ≤ 255) (hg : 0 ≤ gp ∧ gp ≤ 255) (hkd : kd % 11 = 9) (mm : Int) (hmm : W.cell? ⟨0, 0, none⟩ = some (.int .i64 mm)) (hA : A = none → c = 0) (hts : (comText B 10 32).size ≤ 1000) (hn2 : n % 2 = 1) :
    TokA W kd n gp A B.length c 10 (comText B 10 32) (⟨#[59]⟩ ++ comText B 10 32) (⟨#[10]⟩ ++ ⟨(Lib.trimLeftB (gapOf gp).data.toList 10).toArray⟩) := by
  unfold TokA
  obtain ⟨ln, hln⟩ : ∃ ln, B.length = ln := ⟨_, rfl⟩
  obtain ⟨q, hq⟩ : ∃ q, (B.take 300).length = q := ⟨_, rfl⟩
  have hql : min (ln : Int) 300 = (q : Int) := by rw [← hq, ← hln, List.length_take]; omega
  have hqc : q ≤ c := by rw [← hq, List.length_take]; omega
  have pq : ((q : Int) ≤ (c : Int)) = True := eq_true (by omega)
  have HCV := Aside0.mk (show ∀ w, Below W.heap.size W w → (convert 42 9 (.slice A q c)).run Tryz.prog w = .ok (.string ⟨(u8s (B.take 300)).toArray⟩) w from fun w hb => by
    have h := Kd.C_take (m := q) (Kd.C_below hB hb) (by rw [← hq, List.length_take]; omega)
    have e : B.take q = B.take 300 := by rw [List.take_eq_take_iff, ← hq, List.length_take]; omega
    rw [e, hq] at h
    exact conv_C h (fun x hx => hBr x (List.mem_of_mem_take hx)) hA)
  obtain ⟨bs, hbs⟩ : ∃ bs, (⟨(u8s (B.take 300)).toArray⟩ : ByteArray) = bs := ⟨_, rfl⟩
  obtain ⟨text, htx⟩ : ∃ text, comText B 10 32 = text := ⟨_, rfl⟩
  have HRA := Aside0.mk (show ∀ w, Below W.heap.size W w → Calls Tryz.prog 30 #[.string bs, .string ⟨#[10]⟩, .string ⟨#[32]⟩] w fun e w' => e = .returned (.string text) ∧ Below w.heap.size w w' from fun w hb => by
    rw [← hbs, ← htx]; exact repl_all B 10 32 mm w (keepC hmm hb))
  rw [hbs] at HCV
  rw [htx] at hts
  have pz1 : (9223372036854775807 < 1 + text.size) = False := eq_false (by omega)
  have pz2 : (9223372036854775807 < 1 + text.size + 1) = False := eq_false (by omega)
  rw [hln, htx]
  clear hln hq hbs htx hts hmm hA
  have hk0 := hk.1
  have hk1 := hk.2
  have hn0 := hn.1
  have hn1 := hn.2
  have hg0 := hg.1
  have hg1 := hg.2
  have h60 : 0 ≤ gp % 6 := by omega
  have h66 : gp % 6 < 6 := by omega
  have hsix := six_cell ((W.alloc (.cells #[.int .u8 kd, .int .u8 n, .int .u8 gp, .slice A ln c] 46)).alloc (.cells #[.int .i64 0, .string ⟨#[]⟩, .int .i64 0] 31)) gaps rfl gp
  obtain ⟨gs, hgs⟩ : ∃ gs, gapOf gp = gs := ⟨_, rfl⟩
  rw [show gaps.getD (gp % 6).toNat ⟨#[]⟩ = gs from hgs] at hsix
  simp only [gaps, List.map_cons, List.map_nil, World.size_alloc] at hsix
  have HGS := Aside0.mk hgs
  clear hB hc hBr hk hn hg hgs
  go_enter Tryz.func13, Tryz.ntmps13
  go_upto_region 4 with (fail)
  have HT := Aside0.mk (TB.start W #[.int .u8 kd, .int .u8 n, .int .u8 gp, .slice A ln c] 10)
  simp only [gaps, List.map_cons, List.map_nil] at HT
  obtain ⟨b1, hb1⟩ : ∃ b, W.heap.size = b := ⟨_, rfl⟩
  obtain ⟨b2, hb2⟩ : ∃ b, W.heap.size + 1 = b := ⟨_, rfl⟩
  obtain ⟨b7, hb7⟩ : ∃ b, W.heap.size + 1 + 1 + 1 = b := ⟨_, rfl⟩
  obtain ⟨w4, hw4⟩ : ∃ w, (((W.alloc (.cells #[.int .u8 kd, .int .u8 n, .int .u8 gp, .slice A ln c] 46)).alloc (.cells #[.int .i64 0, .string ⟨#[]⟩, .int .i64 0] 31)).alloc (.cells #[.string ⟨#[32]⟩, .string ⟨#[10]⟩, .string ⟨#[9]⟩, .string ⟨#[13, 10]⟩, .string ⟨#[32, 32]⟩, .string ⟨#[10, 37, 112, 97, 115, 115, 101, 100, 32, 111, 118, 101, 114, 32, 34, 40, 10]⟩] 9)).alloc (.cells #[.int .i64 10, .string ⟨#[]⟩, .int .i64 0] 31) = w := ⟨_, rfl⟩
  rw [hb7, hb2, hw4] at HT
  rw [hb7, hb2, hw4]
  rw [hb1] at HT ⊢
  clear hw4 hsix
  have qn : (n % 2 == 0) = false := beq_eq_false_iff_ne.2 (by omega)
  have x1 : w4.cell? ⟨b1, 1, none⟩ = some (.int .u8 n) := (blk_cell HT.out.h1 1).trans rfl
  have x3 : w4.cell? ⟨b1, 3, none⟩ = some (.slice A ln c) := (blk_cell HT.out.h1 3).trans rfl
  have hcv := HCV.out w4 HT.out.bl
  have HRW := Aside0.mk (HRA.out w4 HT.out.bl)
  clear HCV HRA
  go_upto_region 19 with (first
    | (go_at_call 30; (with_reducible refine HRW.out.mono ?_); rintro e w5 ⟨rfl, hb5⟩; have HT5 := Aside0.mk (HT.out.below hb5); have y1 : w5.cell? ⟨b7, 1, none⟩ = some (.string ⟨#[]⟩) := HT5.out.c7.2.1; have z1 : w5.frozen? ⟨b7, 1, none⟩ = false := blk_frozen HT5.out.h7 1; clear hb5))
  have HT7 := Aside0.mk (HT5.out.text text)
  obtain ⟨w7, hw7⟩ : ∃ w7, w5.setCell ⟨b7, 1, none⟩ (.string text) = w7 := ⟨_, rfl⟩
  rw [hw7] at HT7 ⊢
  clear hw7 HT5 HT x1 x3 hcv HRW y1 z1 qn pq hql
  obtain ⟨tg, htg⟩ : ∃ tg, (⟨(Lib.trimLeftB gs.data.toList 10).toArray⟩ : ByteArray) = tg := ⟨_, rfl⟩
  have HTL := Aside0.mk (show ∀ w, Calls Tryz.prog 31 #[.string gs, .string ⟨#[10]⟩] w fun e w' => e = .returned (.string tg) ∧ w' = w from fun w => by rw [← htg]; exact Tryz.strings_TrimLeft_one gs 10 (by decide) w)
  have HTG := Aside0.mk htg
  have hgz : tg.size ≤ 1000 := by rw [← htg, ← HGS.out]; exact trim_le gp
  have pz3 : (9223372036854775807 < 1 + tg.size) = False := eq_false (by omega)
  clear htg
  have HT8 := Aside0.mk (HT7.out.below (Below.refl _ _).drew)
  have x7 := HT8.out.c7
  clear HT7
  refine start_ (n := 10) (S := fun w' => w'.cell? ⟨b7, 0, none⟩ = some (.int .i64 10) ∧ w'.cell? ⟨b7, 1, none⟩ = some (.string text) ∧ w'.cell? ⟨b7, 2, none⟩ = some (.int .i64 0)) (ds := []) #[false, false, false, false, false, false, false, false, false, false] (by kernel_rfl) rfl rfl x7 (fun hHeld => ?_)
  generalize w7.drew = wd2 at HT8 x7 hHeld ⊢
  refine take_ (i := 0) (N := some 107) (v := ?_) (a' := ?_) #[true, false, false, false, false, false, false, false, false, false] rfl rfl (by kernel_rfl) (fun _ _ _ h => h) (Or.inl ⟨by rfl, ?_⟩) hHeld ?_ ?_
  rotate_left
  · rintro w' ⟨s0, s1, s2⟩
    go_simp
    with_reducible rfl
  rotate_left
  · simp only [Act.put, List.setIfInBounds_toArray, List.set_cons_zero, List.set_cons_succ, i64_w, i32_w]
    rfl
  refine pure_ (i := 1) (N := some 108) (v := ?_) (a' := ?_) #[true, true, false, false, false, false, false, false, false, false] rfl rfl (by kernel_rfl) (fun _ _ _ h => h) (Or.inl ⟨by rfl, ?_⟩) ?_ ?_
  rotate_left
  · intro w'
    go_simp
    with_reducible rfl
  rotate_left
  · simp only [Act.put, List.setIfInBounds_toArray, List.set_cons_zero, List.set_cons_succ, i64_w, i32_w]
    rfl
  refine take_ (i := 2) (N := some 109) (v := ?_) (a' := ?_) #[true, true, true, false, false, false, false, false, false, false] rfl rfl (by kernel_rfl) (fun _ _ _ h => h) (Or.inl ⟨by rfl, ?_⟩) hHeld ?_ ?_
  rotate_left
  · rintro w' ⟨s0, s1, s2⟩
    go_simp
    with_reducible rfl
  rotate_left
  · simp only [Act.put, List.setIfInBounds_toArray, List.set_cons_zero, List.set_cons_succ, i64_w, i32_w]
    rfl
  refine pure_ (i := 3) (N := some 110) (v := ?_) (a' := ?_) #[true, true, true, true, false, false, false, false, false, false] rfl rfl (by kernel_rfl) (fun _ _ _ h => h) (Or.inl ⟨by rfl, ?_⟩) ?_ ?_
  rotate_left
  · intro w'
    go_simp
    with_reducible rfl
  rotate_left
  · simp only [Act.put, List.setIfInBounds_toArray, List.set_cons_zero, List.set_cons_succ, i64_w, i32_w]
    rfl
  refine pure_ (i := 4) (N := some 111) (v := ?_) (a' := ?_) #[true, true, true, true, true, false, false, false, false, false] rfl rfl (by kernel_rfl) (fun _ _ _ h => h) (Or.inl ⟨by rfl, ?_⟩) ?_ ?_
  rotate_left
  · intro w'
    go_simp
    with_reducible rfl
  rotate_left
  · simp only [Act.put, List.setIfInBounds_toArray, List.set_cons_zero, List.set_cons_succ, i64_w, i32_w]
    rfl
  refine one_ (i := 5) (N := some 112) #[true, true, true, true, true, true, false, false, false, false] rfl rfl (by kernel_rfl) (by decide) (fun K hK => ?_)
  refine goes_ Tryz.func31 (by kernel_rfl) rfl #[.string gs, .string ⟨#[10]⟩] (by rfl) rfl rfl (by first | (simp only [List.map_toArray, List.map_cons, List.map_nil]; done) | (simp only [List.map_toArray, List.map_cons, List.map_nil]; rfl)) ?_
  with_reducible refine (HTL.out _).mono ?_
  rintro e w8 ⟨rfl, hw8⟩
  refine ⟨_, rfl, ?_⟩
  rw [hw8]
  clear hw8
  refine hK.out _ _ HT8.out.c7 (fun hHeld1 => ?_)
  clear hK K hHeld
  refine norm_ (a' := ?_) ?_ ?_
  rotate_left
  · show Act.put _ (some 112) _ = _
    simp only [Act.put, List.setIfInBounds_toArray, List.set_cons_zero, List.set_cons_succ, i64_w, i32_w]
    rfl
  refine pure_ (i := 6) (N := some 113) (v := ?_) (a' := ?_) #[true, true, true, true, true, true, true, false, false, false] rfl rfl (by kernel_rfl) (fun _ _ _ h => h) (Or.inl ⟨by rfl, ?_⟩) ?_ ?_
  rotate_left
  · intro w'
    go_simp
    with_reducible rfl
  rotate_left
  · simp only [Act.put, List.setIfInBounds_toArray, List.set_cons_zero, List.set_cons_succ, i64_w, i32_w]
    rfl
  refine one_ (i := 7) (N := none) #[true, true, true, true, true, true, true, true, false, false] rfl rfl (by kernel_rfl) (by decide) (fun K hK => ?_)
  obtain ⟨⟨y0, y1, y2⟩, z0, z1, z2⟩ := HT8.out.c2
  have y1' := (World.cell?_setCell_other wd2 ⟨b2, 0, none⟩ ⟨b2, 1, none⟩ (.int .i64 10) (by simp)).trans y1
  refine skip_ (w1 := laid3 wd2 b2 10 text) (by rfl) rfl ?_ ?_
  · go_simp
    try rfl
  refine hK.out _ _ ⟨(blk_cell HT8.out.laid7 0).trans rfl, (blk_cell HT8.out.laid7 1).trans rfl, (blk_cell HT8.out.laid7 2).trans rfl⟩ (fun hHeld2 => ?_)
  clear hK K hHeld1
  refine pure_ (i := 8) (N := some 3) (v := ?_) (a' := ?_) #[true, true, true, true, true, true, true, true, true, false] rfl rfl (by kernel_rfl) (fun _ _ _ h => h) (Or.inl ⟨by rfl, ?_⟩) ?_ ?_
  rotate_left
  · intro w'
    go_simp
    with_reducible rfl
  rotate_left
  · simp only [Act.put, List.setIfInBounds_toArray, List.set_cons_zero, List.set_cons_succ, i64_w, i32_w]
    rfl
  refine pure_ (i := 9) (N := some 4) (v := ?_) (a' := ?_) #[true, true, true, true, true, true, true, true, true, true] rfl rfl (by kernel_rfl) (fun _ _ _ h => h) (Or.inl ⟨by rfl, ?_⟩) ?_ ?_
  rotate_left
  · intro w'
    go_simp
    with_reducible rfl
  rotate_left
  · simp only [Act.put, List.setIfInBounds_toArray, List.set_cons_zero, List.set_cons_succ, i64_w, i32_w]
    rfl
  refine Go.Proofs.YtlpoglkddknedaaGreatDoorW.PrintLast.done_ (by kernel_rfl) ?_
  clear y0 y1 y2 z0 z1 z2 y1' x7 hHeld2
  go_wp2
  refine bodyPost_ret (res13 rfl rfl rfl HT8.out.laid) rfl ?_
  exact ⟨by rw [HGS.out, HTG.out], HT8.out.laidB⟩
end Go.Proofs.YtlpoglkddknedaaGreatDoor.R

namespace Go.Proofs.YtlpoglkddknedaaGreatDoor.R
open Go.RowKit Go.Lib Go.Proofs.YtlpoglkddknedaaGreatDoor.T Go.Proofs.YtlpoglkddknedaaGreatDoor.H Go.Proofs.YtlpoglkddknedaaGreatDoorW.PrintWords Go.Proofs.YtlpoglkddknedaaGreatDoorW.PrintLast
set_option linter.unusedVariables false
set_option linter.unusedSimpArgs false
/-- A piece: its kind, its number, its gap, its bytes. -/
structure Pc where
  kd : Int
  n : Int
  gp : Int
  B : List Int
def strT (p : Pc) : ByteArray := ⟨(lettersL printableS (p.B.take 255)).toArray⟩
def symT (p : Pc) : ByteArray := firstOf p.n ++ ⟨(lettersL laterS (p.B.take 254)).toArray⟩
def glyT (p : Pc) : ByteArray := ⟨(lettersL digS ((p.n :: p.B).take (1 + p.n % 3).toNat)).toArray⟩
def signT (p : Pc) : ByteArray := ⟨#[([46, 42, 91, 93, 40, 41] : List UInt8).getD ((p.kd % 11).toNat - 2) 0]⟩
/-- The text of the token. -/
def pText (p : Pc) : ByteArray :=
  if p.kd % 11 = 0 then strT p else if p.kd % 11 = 1 then symT p else if p.kd % 11 = 8 then glyT p
  else if p.kd % 11 = 9 then (if p.n % 2 = 0 then comText p.B 125 41 else comText p.B 10 32) else if p.kd % 11 = 10 then markOf p.n else signT p
/-- What it is made of. -/
def pSrc (p : Pc) : ByteArray :=
  if p.kd % 11 = 0 then ⟨#[34]⟩ ++ ⟨(replL (strT p).data.toList).toArray⟩ ++ ⟨#[34]⟩ else if p.kd % 11 = 1 then symT p else if p.kd % 11 = 8 then ⟨#[36]⟩ ++ glyT p
  else if p.kd % 11 = 9 then (if p.n % 2 = 0 then ⟨#[123]⟩ ++ comText p.B 125 41 ++ ⟨#[125]⟩ else ⟨#[59]⟩ ++ comText p.B 10 32) else if p.kd % 11 = 10 then markOf p.n else signT p
/-- The white space behind it. -/
def pGap (p : Pc) : ByteArray := if p.kd % 11 = 9 ∧ p.n % 2 = 1 then ⟨#[10]⟩ ++ ⟨(Lib.trimLeftB (gapOf p.gp).data.toList 10).toArray⟩ else gapOf p.gp
def Pc.ok (p : Pc) : Prop := (0 ≤ p.kd ∧ p.kd ≤ 255) ∧ (0 ≤ p.n ∧ p.n ≤ 255) ∧ (0 ≤ p.gp ∧ p.gp ≤ 255) ∧ (∀ x ∈ p.B, 0 ≤ x ∧ x ≤ 255) ∧ p.B.length ≤ 140737488351232
theorem lettersL_length (set : ByteArray) (l : List Int) : (lettersL set l).length = l.length := by simp [lettersL]
theorem lettersF_of (B : List Int) (set : ByteArray) (m : Int) (hm : 0 ≤ m ∧ m ≤ 65536) (hs : 0 < set.size ∧ set.size ≤ 140737488351232) (hB : ∀ x ∈ B, 0 ≤ x ∧ x ≤ 255) (hl : B.length ≤ 140737488355328) :
    lettersF B set m = some ⟨(lettersL set (B.take m.toNat)).toArray⟩ := by
  unfold lettersF
  rw [if_pos ⟨hm.1, hm.2, hs.1, hs.2, hl, List.all_eq_true.2 (fun x hx => decide_eq_true (hB x hx))⟩]
theorem size_mk (l : List UInt8) : (⟨l.toArray⟩ : ByteArray).size = l.length := List.size_toArray
theorem token_call (W : World) (p : Pc) (hp : p.ok) (A : Option Addr) (c : Nat) (hB : Kd.C (Kd.int .u8) W A p.B.length p.B) (hc : p.B.length ≤ c) (hA : A = none → c = 0) (mm : Int) (hmm : W.cell? ⟨0, 0, none⟩ = some (.int .i64 mm)) (hts : ∀ o r, (comText p.B o r).size ≤ 1000) :
    TokA W p.kd p.n p.gp A p.B.length c (1 + p.kd % 11) (pText p) (pSrc p) (pGap p) := by
  obtain ⟨kd, n, gp, B⟩ := p
  obtain ⟨hk, hn, hg, hBr, hBl⟩ := hp
  dsimp only at *
  have hcases : kd % 11 = 0 ∨ kd % 11 = 1 ∨ kd % 11 = 2 ∨ kd % 11 = 3 ∨ kd % 11 = 4 ∨ kd % 11 = 5 ∨ kd % 11 = 6 ∨ kd % 11 = 7 ∨ kd % 11 = 8 ∨ kd % 11 = 9 ∨ kd % 11 = 10 := by omega
  unfold pText pSrc pGap
  dsimp only
  rcases hcases with h | h | h | h | h | h | h | h | h | h | h
  · simp only [h, if_true, show ¬ ((0 : Int) = 9 ∧ n % 2 = 1) by omega, if_false, Int.add_zero]
    refine tok_str W kd n gp A c B hB hc hBr hk hn hg h (strT ⟨kd, n, gp, B⟩) (lettersF_of B printableS 255 (by decide) (by decide) hBr (by omega)) ?_
    unfold strT; rw [size_mk, lettersL_length, List.length_take]; omega
  · simp only [h, show ¬ ((1 : Int) = 0) by decide, show ¬ ((1 : Int) = 9 ∧ n % 2 = 1) by omega, if_false, if_true]
    refine tok_sym W kd n gp A c B hB hc hBr hk hn hg h _ (lettersF_of B laterS 254 (by decide) (by decide) hBr (by omega)) ?_
    rw [size_mk, lettersL_length, List.length_take]; omega
  · have e : signT ⟨kd, n, gp, B⟩ = ⟨#[46]⟩ := by unfold signT; dsimp only; rw [h]; rfl
    rw [e]
    simp only [h, show ¬ ((2 : Int) = 0) by decide, show ¬ ((2 : Int) = 1) by decide, show ¬ ((2 : Int) = 8) by decide, show ¬ ((2 : Int) = 9) by decide, show ¬ ((2 : Int) = 10) by decide, show ¬ ((2 : Int) = 9 ∧ n % 2 = 1) by omega, if_false]
    exact tok_sign0 W kd n gp A c B hB hc hBr hk hn hg h
  · have e : signT ⟨kd, n, gp, B⟩ = ⟨#[42]⟩ := by unfold signT; dsimp only; rw [h]; rfl
    rw [e]
    simp only [h, show ¬ ((3 : Int) = 0) by decide, show ¬ ((3 : Int) = 1) by decide, show ¬ ((3 : Int) = 8) by decide, show ¬ ((3 : Int) = 9) by decide, show ¬ ((3 : Int) = 10) by decide, show ¬ ((3 : Int) = 9 ∧ n % 2 = 1) by omega, if_false]
    exact tok_sign1 W kd n gp A c B hB hc hBr hk hn hg h
  · have e : signT ⟨kd, n, gp, B⟩ = ⟨#[91]⟩ := by unfold signT; dsimp only; rw [h]; rfl
    rw [e]
    simp only [h, show ¬ ((4 : Int) = 0) by decide, show ¬ ((4 : Int) = 1) by decide, show ¬ ((4 : Int) = 8) by decide, show ¬ ((4 : Int) = 9) by decide, show ¬ ((4 : Int) = 10) by decide, show ¬ ((4 : Int) = 9 ∧ n % 2 = 1) by omega, if_false]
    exact tok_sign2 W kd n gp A c B hB hc hBr hk hn hg h
  · have e : signT ⟨kd, n, gp, B⟩ = ⟨#[93]⟩ := by unfold signT; dsimp only; rw [h]; rfl
    rw [e]
    simp only [h, show ¬ ((5 : Int) = 0) by decide, show ¬ ((5 : Int) = 1) by decide, show ¬ ((5 : Int) = 8) by decide, show ¬ ((5 : Int) = 9) by decide, show ¬ ((5 : Int) = 10) by decide, show ¬ ((5 : Int) = 9 ∧ n % 2 = 1) by omega, if_false]
    exact tok_sign3 W kd n gp A c B hB hc hBr hk hn hg h
  · have e : signT ⟨kd, n, gp, B⟩ = ⟨#[40]⟩ := by unfold signT; dsimp only; rw [h]; rfl
    rw [e]
    simp only [h, show ¬ ((6 : Int) = 0) by decide, show ¬ ((6 : Int) = 1) by decide, show ¬ ((6 : Int) = 8) by decide, show ¬ ((6 : Int) = 9) by decide, show ¬ ((6 : Int) = 10) by decide, show ¬ ((6 : Int) = 9 ∧ n % 2 = 1) by omega, if_false]
    exact tok_sign4 W kd n gp A c B hB hc hBr hk hn hg h
  · have e : signT ⟨kd, n, gp, B⟩ = ⟨#[41]⟩ := by unfold signT; dsimp only; rw [h]; rfl
    rw [e]
    simp only [h, show ¬ ((7 : Int) = 0) by decide, show ¬ ((7 : Int) = 1) by decide, show ¬ ((7 : Int) = 8) by decide, show ¬ ((7 : Int) = 9) by decide, show ¬ ((7 : Int) = 10) by decide, show ¬ ((7 : Int) = 9 ∧ n % 2 = 1) by omega, if_false]
    exact tok_sign5 W kd n gp A c B hB hc hBr hk hn hg h
  · simp only [h, show ¬ ((8 : Int) = 0) by decide, show ¬ ((8 : Int) = 1) by decide, show ¬ ((8 : Int) = 9 ∧ n % 2 = 1) by omega, if_false, if_true]
    refine tok_gly W kd n gp A c B hB hc hBr hk hn hg h _ (lettersF_of (n :: B) digS (1 + n % 3) (by omega) (by decide) (fun x hx => ?_) (by simp only [List.length_cons]; omega)) ?_ (by omega)
    · rcases List.mem_cons.1 hx with rfl | hx
      · exact hn
      · exact hBr x hx
    · unfold glyT; rw [size_mk, lettersL_length, List.length_take]; dsimp only; omega
  · simp only [h, show ¬ ((9 : Int) = 0) by decide, show ¬ ((9 : Int) = 1) by decide, show ¬ ((9 : Int) = 8) by decide, if_false, if_true, true_and]
    by_cases h2 : n % 2 = 0
    · rw [if_pos h2, if_pos h2, if_neg (by omega)]
      exact tok_com0 W kd n gp A c B hB hc hBr hk hn hg h mm hmm hA (hts 125 41) h2
    · rw [if_neg h2, if_neg h2, if_pos (by omega)]
      exact tok_com1 W kd n gp A c B hB hc hBr hk hn hg h mm hmm hA (hts 10 32) (by omega)
  · simp only [h, show ¬ ((10 : Int) = 0) by decide, show ¬ ((10 : Int) = 1) by decide, show ¬ ((10 : Int) = 8) by decide, show ¬ ((10 : Int) = 9) by decide, show ¬ ((10 : Int) = 9 ∧ n % 2 = 1) by omega, if_false, if_true]
    exact tok_mark W kd n gp A c B hB hc hBr hk hn hg h
end Go.Proofs.YtlpoglkddknedaaGreatDoor.R

namespace Go.Proofs.YtlpoglkddknedaaGreatDoor.R
open Go.RowKit Go.Lib Go.Proofs.YtlpoglkddknedaaGreatDoor.T Go.Proofs.YtlpoglkddknedaaGreatDoor.H Go.Proofs.YtlpoglkddknedaaGreatDoorW.PrintWords Go.Proofs.YtlpoglkddknedaaGreatDoorW.PrintLast
set_option linter.unusedVariables false
set_option linter.unusedSimpArgs false
/-- The string and the tokens of pieces. -/
def stepT (st : List UInt8 × List S31) (p : Pc) : List UInt8 × List S31 := (st.1 ++ (pSrc p ++ pGap p).data.toList, st.2 ++ [⟨1 + p.kd % 11, pText p, (st.1.length : Int)⟩])
def textS (P : List Pc) : List UInt8 × List S31 := P.foldl stepT ([], [])
theorem textS_snoc (P : List Pc) (p : Pc) : textS (P ++ [p]) = stepT (textS P) p := by simp [textS]
theorem textS_take (P : List Pc) (k : Nat) (p : Pc) (h : P[k]? = some p) : textS (P.take (k + 1)) = stepT (textS (P.take k)) p := by
  have hk := (List.getElem?_eq_some_iff.1 h).1
  rw [List.take_succ_eq_append_getElem hk, (List.getElem?_eq_some_iff.1 h).2, textS_snoc]
theorem foldT_toks : ∀ (P : List Pc) (st : List UInt8 × List S31), (P.foldl stepT st).2.length = st.2.length + P.length
  | [], st => rfl
  | p :: P, st => by
    rw [List.foldl_cons, foldT_toks P]
    simp only [stepT, List.length_append, List.length_cons, List.length_nil]
    omega
theorem textS_toks (P : List Pc) : (textS P).2.length = P.length := by
  have h := foldT_toks P ([], [])
  simpa [textS] using h
theorem foldT_len : ∀ (P : List Pc) (st : List UInt8 × List S31), (∀ p ∈ P, (pSrc p ++ pGap p).size ≤ 5000) → (P.foldl stepT st).1.length ≤ st.1.length + 5000 * P.length
  | [], st, _ => by simp
  | p :: P, st, h => by
    have h1 := foldT_len P (stepT st p) (fun q hq => h q (by simp [hq]))
    have h2 := h p (by simp)
    have h3 : (pSrc p ++ pGap p).data.toList.length = (pSrc p ++ pGap p).size := Array.length_toList
    rw [List.foldl_cons]
    have h4 : (stepT st p).1.length = st.1.length + (pSrc p ++ pGap p).size := by simp only [stepT, List.length_append, h3]
    simp only [List.length_cons]
    omega
theorem textS_len (P : List Pc) (h : ∀ p ∈ P, (pSrc p ++ pGap p).size ≤ 5000) : (textS P).1.length ≤ 5000 * P.length := by
  have h1 := foldT_len P ([], []) h
  simpa [textS] using h1
/-- Pieces in memory. -/
def PiecesAt (w : World) (A : Option Addr) (P : List Pc) : Prop := ∀ (j : Nat) p, P[j]? = some p → ∃ ad A' c', A = some ad ∧ w.cell? (ad.add (j * 4)) = some (.int .u8 p.kd) ∧ w.cell? ⟨(ad.add (j * 4)).block, (ad.add (j * 4)).off + 1, none⟩ = some (.int .u8 p.n) ∧
  w.cell? ⟨(ad.add (j * 4)).block, (ad.add (j * 4)).off + 2, none⟩ = some (.int .u8 p.gp) ∧ w.cell? ⟨(ad.add (j * 4)).block, (ad.add (j * 4)).off + 3, none⟩ = some (.slice A' p.B.length c') ∧ Kd.C (Kd.int .u8) w A' p.B.length p.B ∧ p.B.length ≤ c' ∧ (A' = none → c' = 0)
theorem PiecesAt.below {w w1 : World} {A : Option Addr} {P : List Pc} (h : PiecesAt w A P) (hb : Below w.heap.size w w1) : PiecesAt w1 A P := fun j p hp => by
  obtain ⟨ad, A', c', e, h0, h1, h2, h3, h4, h5, h6⟩ := h j p hp
  exact ⟨ad, A', c', e, keepC h0 hb, keepC h1 hb, keepC h2 hb, keepC h3 hb, Kd.C_below h4 hb, h5, h6⟩
theorem BuilderAtF.moved {W w w1 : World} {b : Nat} {p : Value} {bs : List Value} (h : BuilderAtF 44 5 W.heap.size b p bs w) {row : Option Nat} (hg : w.grownBy w1 row) (hr : ∀ k, row = some k → k < w.heap.size → ∃ cells, w.heap[k]? = some (.cells cells 31 (0, 0))) : BuilderAtF 44 5 W.heap.size b p bs w1 := by
  have hlt := h.lt
  obtain ⟨hB, v, hb, hown, hne⟩ := h
  refine ⟨hB, v, ?_, hown.kept hg ?_, hne⟩
  · rw [hg.block b hlt (fun e => ?_)]
    · exact hb
    · obtain ⟨cells, hc⟩ := hr b e.symm hlt
      rw [hb] at hc
      injection hc with hc
      injection hc with _ h2
      exact absurd h2 (by decide)
  · cases ho : v.ownBlock with
    | none => exact .inl rfl
    | some k =>
      refine .inr (fun e => ?_)
      rcases hown.2 with hn | ⟨g, cap, cur, fz, hv, _, hgg, _⟩
      · rw [hn.1] at ho; simp [Value.ownBlock] at ho
      · rw [hv] at ho
        obtain rfl : g = k := by simpa [Value.ownBlock] using ho
        obtain ⟨cells, hc⟩ := hr g e.symm (blk_lt hgg)
        rw [hgg] at hc
        injection hc with hc
        injection hc with _ h2
        exact absurd h2 (by decide)
/-- The builder and the row of tokens. -/
structure TXT (W : World) (b : Nat) (bytes : List UInt8) (vt : Value) (toks : List S31) (w : World) : Prop where
  bld : IsBuilderF 44 5 W.heap.size b (byteCells bytes) w
  row : Kd.R k31 31 w W.heap.size (fun _ => True) vt toks
  bl : Below W.heap.size W w
section
variable {W w w1 : World} {b : Nat} {bytes : List UInt8} {vt : Value} {toks : List S31}
theorem TXT.moved (h : TXT W b bytes vt toks w) {row : Option Nat} (hg : w.grownBy w1 row) (hr : ∀ k, row = some k → k < w.heap.size → ∃ cells, w.heap[k]? = some (.cells cells 31 (0, 0))) : IsBuilderF 44 5 W.heap.size b (byteCells bytes) w1 :=
  h.bld.elim (fun x => .inl (BuilderAtF.moved x hg hr)) (fun x => .inr (BuilderAtF.moved x hg hr))
theorem TXT.below (h : TXT W b bytes vt toks w) (hb : Below w.heap.size w w1) : TXT W b bytes vt toks w1 where
  bld := h.moved (row := none) ⟨hb.os, hb.tape, hb.output, hb.size, fun k hk _ => hb.block k hk⟩ (fun k e => absurd e (by simp))
  row := Kd.R_below h.row hb
  bl := h.bl.trans (hb.mono h.bl.size)
theorem TXT.own31 (h : TXT W b bytes vt toks w) : ∀ k, vt.ownBlock = some k → k < w.heap.size → ∃ cells, w.heap[k]? = some (.cells cells 31 (0, 0)) := fun k e _ => by
  obtain ⟨_, _, _, q, hq, cells, hc⟩ := (Kd.R_bound h.row).1 k e
  have hq2 : q = 31 := by
    have : k31.E = [] := rfl
    rw [this] at hq
    simpa using hq
  subst hq2
  exact ⟨cells, hc⟩
theorem TXT.app (h : TXT W b bytes vt toks w) {v1 : Value} {x : S31} (ho : Kd.R k31 31 w1 W.heap.size (fun _ => True) v1 (toks ++ [x])) (hb : Below W.heap.size W w1) (hg : w.grownBy w1 vt.ownBlock) : TXT W b bytes v1 (toks ++ [x]) w1 where
  bld := h.moved hg h.own31
  row := ho
  bl := hb
theorem TXT.rowK (h : TXT W b bytes vt toks w) (hb : Below W.heap.size w w1) (hk : OthersKept 5 (some b) w w1) : Kd.R k31 31 w1 W.heap.size (fun _ => True) vt toks := by
  have hlt : b < w.heap.size := h.bld.elim (fun x => x.lt) (fun x => x.lt)
  have h44 : ∃ p v, w.heap[b]? = some (.cells #[p, v] 44 (0, 0)) := by
    rcases h.bld with ⟨_, v, hb, _⟩ | ⟨_, v, hb, _⟩
    · exact ⟨_, v, hb⟩
    · exact ⟨_, v, hb⟩
  have h1 := Kd.R_mono (Kd.R_bound h.row) (ok' := fun k => ∃ cells, w.heap[k]? = some (.cells cells 31 (0, 0))) (fun k hk => by
    obtain ⟨_, _, _, q, hq, cells, hc⟩ := hk
    have hq2 : q = 31 := by
      have : k31.E = [] := rfl
      rw [this] at hq
      simpa using hq
    subst hq2
    exact ⟨cells, hc⟩)
  refine Kd.R_mono (Kd.R_kept (W2 := w1) (S := fun k => ¬ ∃ cells, w.heap[k]? = some (.cells cells 31 (0, 0))) h1 ⟨hb.size, fun i hi hn => ?_⟩ (fun k hk hn => hn hk)) (fun _ _ => trivial)
  obtain ⟨cells, hc⟩ := Classical.not_not.1 hn
  rw [hc]
  refine hk i _ hc (fun e => ?_) (fun c fz e => ?_)
  · obtain rfl := Option.some.inj e
    obtain ⟨p, v, h4⟩ := h44
    rw [h4] at hc
    injection hc with hc
    injection hc with _ h2
    exact absurd h2 (by decide)
  · injection e with _ h2
    exact absurd h2 (by decide)
theorem TXT.write (h : TXT W b bytes vt toks w) {s : ByteArray} (hB : BuilderAtF 44 5 W.heap.size b (.pointer (some ⟨b, 0, none⟩)) (byteCells bytes ++ strCells s) w1) (hb : Below W.heap.size w w1) (hk : OthersKept 5 (some b) w w1) : TXT W b (bytes ++ s.data.toList) vt toks w1 where
  bld := by
    have e : byteCells (bytes ++ s.data.toList) = byteCells bytes ++ strCells s := by rw [byteCells_app]; rfl
    rw [e]
    exact .inr hB
  row := h.rowK hb hk
  bl := h.bl.trans hb
theorem TXT.start (W : World) : TXT W W.heap.size [] (.slice none 0 0) [] (W.alloc (.cells #[.pointer none, .slice none 0 0] 44)) where
  bld := IsBuilderF.of (fresh_isBuilder 44 5 W)
  row := Kd.R_nil _ _ _ _ _
  bl := (Below.refl _ _).alloc (Nat.le_refl _) _
end
end Go.Proofs.YtlpoglkddknedaaGreatDoor.R

namespace Go.Proofs.YtlpoglkddknedaaGreatDoor.R
open Go.RowKit Go.Lib Go.Proofs.YtlpoglkddknedaaGreatDoor.T Go.Proofs.YtlpoglkddknedaaGreatDoor.H Go.Proofs.YtlpoglkddknedaaGreatDoorW.PrintWords Go.Proofs.YtlpoglkddknedaaGreatDoorW.PrintLast
set_option linter.unusedVariables false
set_option linter.unusedSimpArgs false
theorem txi31 : (Tryz.prog.info? 31).map (fun i => (i.zero, i.size, i.bytes)) = some (some (.agg #[(.int .i64 0), (.string ⟨#[]⟩), (.int .i64 0)]), 3, 32) := by kernel_rfl
set_option maxRecDepth 100000 in
set_option maxHeartbeats 8000000 in
theorem text_call (W : World) (A : Option Addr) (c : Nat) (P : List Pc) (hP : PiecesAt W A P) (hc : P.length ≤ c) (hok : ∀ p ∈ P, p.ok) (hsz : ∀ p ∈ P, (pSrc p).size + (pGap p).size ≤ 5000) (hts : ∀ p ∈ P, ∀ o r, (comText p.B o r).size ≤ 1000) (mm : Int) (hmm : W.cell? ⟨0, 0, none⟩ = some (.int .i64 mm)) :
    Calls Tryz.prog 6 #[.slice A P.length c] W fun e w' => ∃ vt, e = .returned (.tuple #[.string ⟨(textS (P.take 20)).1.toArray⟩, vt]) ∧ Kd.R k31 31 w' W.heap.size (fun _ => True) vt (textS (P.take 20)).2 ∧ Below W.heap.size W w' := by
  obtain ⟨P2, hP2⟩ : ∃ P2, P.take 20 = P2 := ⟨_, rfl⟩
  obtain ⟨n, hn⟩ : ∃ n, P2.length = n := ⟨_, rfl⟩
  obtain ⟨m, hm⟩ : ∃ m, P.length = m := ⟨_, rfl⟩
  have hn20 : n ≤ 20 := by rw [← hn, ← hP2, List.length_take]; omega
  have hnm : min (m : Int) 20 = (n : Int) := by rw [← hn, ← hP2, ← hm, List.length_take]; omega
  have hnm2 : n ≤ m := by rw [← hn, ← hP2, ← hm, List.length_take]; omega
  have hget : ∀ (k : Nat) (p : Pc), P2[k]? = some p → P[k]? = some p := by
    intro k p h
    rw [← hP2] at h
    have hk := (List.getElem?_eq_some_iff.1 h).1
    rw [List.length_take] at hk
    rw [List.getElem?_take, if_pos (by omega)] at h
    exact h
  have HLT := Aside0.mk (show ∀ k, (textS (P2.take k)).1.length ≤ 5000 * 20 ∧ (textS (P2.take k)).2.length ≤ 20 from fun k => by
    have h1 := textS_len (P2.take k) (fun p hp => by
      have := hsz p (List.mem_of_mem_take (hP2 ▸ List.mem_of_mem_take hp))
      rw [ByteArray.size_append]; exact this)
    have h2 := textS_toks (P2.take k)
    have h3 : (P2.take k).length ≤ 20 := by rw [List.length_take]; omega
    exact ⟨by omega, by omega⟩)
  have HTK := Aside0.mk (show ∀ (k : Nat) (p : Pc), P2[k]? = some p → textS (P2.take (k + 1)) = stepT (textS (P2.take k)) p from fun k p h => textS_take P2 k p h)
  have HPA := Aside0.mk (show ∀ w, Below W.heap.size W w → PiecesAt w A P from fun w hb => hP.below hb)
  have HGET := Aside0.mk hget
  have HOK := Aside0.mk hok
  have HSZ := Aside0.mk hsz
  have HTS := Aside0.mk hts
  have HMM := Aside0.mk hmm
  have HN := Aside0.mk hn
  rw [hP2, hm]
  rw [hm] at hc
  have hcc : ((n : Int) ≤ (c : Int)) = True := eq_true (by omega)
  clear hP hok hsz hts hmm hP2 hn hm hget
  go_enter Tryz.func6, Tryz.ntmps6
  go_upto_region 4 with (fail)
  have HS := Aside0.mk (TXT.start W)
  obtain ⟨w1, hw1⟩ : ∃ w1, W.alloc (.cells #[.pointer none, .slice none 0 0] 44) = w1 := ⟨_, rfl⟩
  obtain ⟨b, hb⟩ : ∃ b, W.heap.size = b := ⟨_, rfl⟩
  have HBB := Aside0.mk hb
  rw [hw1] at HS ⊢
  rw [hb]
  clear hw1 hb
  go_loopw [5, 17] (fun v5 v17 wr => ∃ k : Nat, k ≤ n ∧ v17 = .int .i64 k ∧ Hid (TXT W W.heap.size (textS (P2.take k)).1 v5 (textS (P2.take k)).2 wr)) (fun _ i _ => n - (Go.RowKit.intOf i).toNat)
  case atStart => exact ⟨0, Nat.zero_le _, rfl, Lib.hid HS.out⟩
  case round =>
    clear HS
    obtain ⟨k, hk, rfl, HX⟩ := hrel
    by_cases hlt : k < n
    · obtain ⟨p, hp⟩ : ∃ p, P2[k]? = some p := ⟨_, List.getElem?_eq_getElem (by rw [HN.out]; exact hlt)⟩
      obtain ⟨ad, A', c', rfl, x0, x1, x2, x3, hB, hBc, hA'⟩ := HPA.out wr HX.out.bl k p (HGET.out k p hp)
      have hmem : p ∈ P := List.mem_of_getElem? (HGET.out k p hp)
      have HST := Aside0.mk (HTK.out k p hp)
      have hle := HLT.out k
      obtain ⟨ln, hln⟩ : ∃ ln, p.B.length = ln := ⟨_, rfl⟩
      obtain ⟨kd, hkd⟩ : ∃ z, p.kd = z := ⟨_, rfl⟩
      obtain ⟨nn, hnn⟩ : ∃ z, p.n = z := ⟨_, rfl⟩
      obtain ⟨gp, hgp⟩ : ∃ z, p.gp = z := ⟨_, rfl⟩
      rw [hkd] at x0
      rw [hnn] at x1
      rw [hgp] at x2
      rw [hln] at x3
      obtain ⟨kk, hkk⟩ : ∃ z, 1 + p.kd % 11 = z := ⟨_, rfl⟩
      obtain ⟨tx, htx⟩ : ∃ z, pText p = z := ⟨_, rfl⟩
      obtain ⟨sr, hsr⟩ : ∃ z, pSrc p = z := ⟨_, rfl⟩
      obtain ⟨ga, hga⟩ : ∃ z, pGap p = z := ⟨_, rfl⟩
      have hss := HSZ.out p hmem
      rw [hsr, hga] at hss
      have HCT := Aside0.mk (show ∀ w, Below wr.heap.size wr w → Calls Tryz.prog 13 #[.agg #[.int .u8 kd, .int .u8 nn, .int .u8 gp, .slice A' ln c']] w fun e w' => e = .returned (.tuple #[.agg #[.int .i64 kk, .string tx, .int .i64 0], .string sr, .string ga]) ∧ Below w.heap.size w w' from fun w hb => by
        rw [← hkd, ← hnn, ← hgp, ← hln, ← hkk, ← htx, ← hsr, ← hga]
        exact token_call w p (HOK.out p hmem) A' c' (Kd.C_below hB hb) hBc hA' mm (keepC (keepC HMM.out HX.out.bl) hb) (HTS.out p hmem))
      have HEQ := Aside0.mk (show stepT (textS (P2.take k)) p = ((textS (P2.take k)).1 ++ (sr ++ ga).data.toList, (textS (P2.take k)).2 ++ [⟨kk, tx, ((textS (P2.take k)).1.length : Int)⟩]) by unfold stepT; rw [hsr, hga, hkk, htx])
      obtain ⟨by_, hby⟩ : ∃ z, (textS (P2.take k)).1 = z := ⟨_, rfl⟩
      obtain ⟨tk, htk⟩ : ∃ z, (textS (P2.take k)).2 = z := ⟨_, rfl⟩
      rw [hby, htk] at HX HEQ hle
      obtain ⟨L, hL⟩ : ∃ L, by_.length = L := ⟨_, rfl⟩
      rw [hL] at HEQ hle
      obtain ⟨Av, cv, ev⟩ := Kd.R_slice HX.out.row
      obtain ⟨nt, hnt⟩ : ∃ nt, tk.length = nt := ⟨_, rfl⟩
      rw [hnt] at ev
      subst ev
      have HXX := Aside0.mk HX.out
      have HNT := Aside0.mk hnt
      rw [hnt] at hle
      have psz : (9223372036854775807 < sr.size + ga.size) = False := eq_false (by omega)
      have HLL := Aside0.mk hL
      have HSS := Aside0.mk hss
      have hlt9 : L ≤ 100000 := by omega
      have htl := hle.2
      clear hB hBc hA' hmem hp hln hkd hnn hgp hkk htx hsr hga hss hby htk hL HX hle hnt
      go_upto_region 7 with (first
        | (go_at_call 13; (with_reducible refine (HCT.out _ ((Below.refl _ _).alloc (Nat.le_refl _) _)).mono ?_); rintro e w5 ⟨rfl, hb5⟩; have HB5 := Aside0.mk hb5; clear hb5))
      have HB6 := Aside0.mk (show Below wr.heap.size wr (w5.alloc (.cells #[.int .i64 kk, .string tx, .int .i64 0] 31)) from by
        have h1 : Below wr.heap.size wr w5 := ((Below.refl wr.heap.size wr).alloc (Nat.le_refl _) _).trans (HB5.out.mono (by rw [World.size_alloc]; omega))
        exact h1.alloc h1.size _)
      have h8 : (w5.alloc (.cells #[.int .i64 kk, .string tx, .int .i64 0] 31)).heap[w5.heap.size]? = some (.cells #[.int .i64 kk, .string tx, .int .i64 0] 31 (0, 0)) := blk_new w5 _
      have h8l : wr.heap.size ≤ w5.heap.size := by have := HB5.out.size; rw [World.size_alloc] at this; omega
      obtain ⟨w6, hw6⟩ : ∃ w6, w5.alloc (.cells #[.int .i64 kk, .string tx, .int .i64 0] 31) = w6 := ⟨_, rfl⟩
      obtain ⟨b8, hb8⟩ : ∃ b, w5.heap.size = b := ⟨_, rfl⟩
      rw [hb8] at h8l
      rw [hw6, hb8] at h8
      rw [hw6] at HB6
      rw [hw6, hb8]
      have H8 := Aside0.mk h8
      have HX6 := Aside0.mk (HXX.out.below HB6.out)
      have HLC := Aside0.mk (show Calls Tryz.prog 14 #[.pointer (some ⟨b, 0, none⟩)] w6 fun e w' => e = .returned (.int .i64 (L : Int)) ∧ w' = w6 from by
        have h := Tryz.Builder_Len_f W.heap.size W.heap.size (byteCells by_) w6 HX6.out.bld
        rw [byteCells_length, HLL.out] at h
        rw [← HBB.out]
        exact h)
      have y2 : w6.cell? ⟨b8, 2, none⟩ = some (.int .i64 0) := (blk_cell h8 2).trans rfl
      have z2 : w6.frozen? ⟨b8, 2, none⟩ = false := blk_frozen h8 2
      have HB7 := Aside0.mk (HB6.out.setCell (p := ⟨b8, 2, none⟩) h8l (.int .i64 (L : Int)))
      have HX7 := Aside0.mk (HXX.out.below HB7.out)
      have h87 := blk_put h8 2 (.int .i64 (L : Int)) rfl
      have r0 : (w6.setCell ⟨b8, 2, none⟩ (.int .i64 (L : Int))).cell? ⟨b8, 0, none⟩ = some (.int .i64 kk) := (blk_cell h87 0).trans rfl
      have r1 : (w6.setCell ⟨b8, 2, none⟩ (.int .i64 (L : Int))).cell? ⟨b8, 1, none⟩ = some (.string tx) := (blk_cell h87 1).trans rfl
      have r2 : (w6.setCell ⟨b8, 2, none⟩ (.int .i64 (L : Int))).cell? ⟨b8, 2, none⟩ = some (.int .i64 (L : Int)) := (blk_cell h87 2).trans rfl
      clear hw6 hb8 h8 h8l h87 HB5 HCT HX6 H8
      go_upto_region 8 with (first
        | (go_at_call 14; (with_reducible refine HLC.out.mono ?_); rintro e w' ⟨rfl, hw⟩; rw [hw]; clear hw w'))
      clear y2 z2 HLC
      obtain ⟨w7, hw7⟩ : ∃ w7, w6.setCell ⟨b8, 2, none⟩ (.int .i64 (L : Int)) = w7 := ⟨_, rfl⟩
      rw [hw7] at HB7 HX7 r0 r1 r2 ⊢
      clear hw7 HB6
      go_upto_region 9 with (first
        | (at_builtin
           refine Kd.R_append k31 (w0 := W) W.heap.size rfl (.tmp 29) (.tmp 31) 23 31 (.agg #[(.int .i64 0), (.string ⟨#[]⟩), (.int .i64 0)]) 32 rfl Tryz.underlying23 txi31 rfl (by decide) (by omega) (.slice Av nt cv) tk ⟨kk, tx, L⟩ [.int .i64 kk, .string tx, .int .i64 L] (fun _ => True) (fun _ => False) rfl (by first | (go_simp; done) | (go_simp; rfl)) (k31_mkM _ _ _ ⟨kk, tx, L⟩) (fun _ hk => hk.elim) ?aF ?aO ?aB ?aS ?aL ?_
           case aF => exact fun _ _ => trivial
           case aO => exact HX7.out.row
           case aB => exact HX7.out.bl
           case aS => exact HX7.out.bl.size
           case aL => rw [HNT.out]; omega
           intro v8 w8 ho hb8 hg8 hat8
           have HX8 := Aside0.mk (HX7.out.app ho hb8 hg8)
           clear ho hb8 hg8 hat8))
      clear r0 r1 r2 HX7 HB7
      have HWS := Aside0.mk (show Calls Tryz.prog 15 #[.pointer (some ⟨b, 0, none⟩), .string (sr ++ ga)] w8 fun e w' => e = .returned (.tuple #[.int .i64 (sr ++ ga).size, .nilIface]) ∧ TXT W W.heap.size (by_ ++ (sr ++ ga).data.toList) v8 (tk ++ [⟨kk, tx, L⟩]) w' from by
        rw [← HBB.out]
        refine (Tryz.Builder_WriteString_k W.heap.size W.heap.size (byteCells by_) (sr ++ ga) w8 HX8.out.bld (by have := HSS.out; rw [byteCells_length, HLL.out, ByteArray.size_append]; omega) HX8.out.bl.size).mono ?_
        rintro e w' ⟨rfl, hB, hb, hk⟩
        exact ⟨rfl, HX8.out.write hB hb hk⟩)
      clear HX8
      go_upto_region 10 with (first
        | (go_at_call 15; (with_reducible refine HWS.out.mono ?_); rintro e w9 ⟨rfl, hx9⟩; have HX9 := Aside0.mk hx9; clear hx9))
      clear HWS
      go_wp2
      go_roundw
      case rel => exact ⟨k + 1, by omega, by go_num, Lib.hid (by rw [HST.out, HEQ.out]; exact HX9.out)⟩
      case measure => simp [Go.RowKit.intOf]; omega
    · have hkn : n = k := by omega
      subst hkn
      have hx := HX.out
      rw [List.take_of_length_le (show P2.length ≤ n by rw [HN.out]; exact Nat.le_refl _)] at hx
      obtain ⟨by_, hby⟩ : ∃ z, (textS P2).1 = z := ⟨_, rfl⟩
      obtain ⟨tk, htk⟩ : ∃ z, (textS P2).2 = z := ⟨_, rfl⟩
      rw [hby, htk] at hx
      have HXX := Aside0.mk hx
      have HF := Aside0.mk (And.intro hby htk)
      have HSC := Aside0.mk (show Calls Tryz.prog 16 #[.pointer (some ⟨b, 0, none⟩)] wr fun e w' => e = .returned (.string ⟨by_.toArray⟩) ∧ Kd.R k31 31 w' W.heap.size (fun _ => True) u5 tk ∧ Below W.heap.size W w' from by
        rw [← HBB.out]
        refine (Tryz.Builder_String_any_k W.heap.size W.heap.size by_ wr hx.bld hx.bl.size).mono ?_
        rintro e w' ⟨rfl, _, hb, hk⟩
        have h0 : BuilderAtF 44 5 W.heap.size W.heap.size (.pointer none) (byteCells by_) wr ∨ BuilderAtF 44 5 W.heap.size W.heap.size (.pointer (some ⟨W.heap.size, 0, none⟩)) (byteCells by_) wr := hx.bld
        exact ⟨rfl, TXT.rowK hx hb hk, hx.bl.trans hb⟩)
      clear HX hx hby htk hlt hk
      go_wp2_with (first
        | (go_at_call 16; (with_reducible refine HSC.out.mono ?_); rintro e w9 ⟨rfl, hr9, hb9⟩; have HR9 := Aside0.mk (And.intro hr9 hb9); clear hr9 hb9))
      go_ret2
      exact ⟨u5, by rw [HF.out.1]; rfl, by rw [HF.out.2]; exact HR9.out.1, HR9.out.2⟩
end Go.Proofs.YtlpoglkddknedaaGreatDoor.R

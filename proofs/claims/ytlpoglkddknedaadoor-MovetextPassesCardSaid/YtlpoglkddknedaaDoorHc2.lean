/- The plain law of MovetextPasses, more: how long the row is, how long its texts. No program in sight. · MovetextPasses: what the closure pass captures, and how it goes on. No walk in sight. · MovetextPasses: the closure pass walked. Conditions: as the theorem says. · The calls of MovetextPasses, each by its contract, in the form in which the walk names them. -/
import Derived.Test.YtlpoglkddknedaaDoorPz
import Derived.Lib.ItoaLen
import Derived.Test.YtlpoglkddknedaaDoorHi
import Derived.Test.YtlpoglkddknedaaDoorHx
namespace Go.Proofs.YtlpoglkddknedaaDoor.Z
open Go.RowKit Go.Proofs.YtlpoglkddknedaaDoor.T Go.Proofs.YtlpoglkddknedaaDoor.H Go.Proofs.YtlpoglkddknedaaDoorW.PrintWords Go.Proofs.YtlpoglkddknedaaDoorW.PrintLast
set_option linter.unusedVariables false
set_option linter.unusedSimpArgs false
theorem nz_len (num : Int → ByteArray) (k d : Int) (h : 0 ≤ d) : (nz num k d).length ≤ 30 := by
  unfold nz
  split
  · simp
  split
  · simp
  split
  · simp
  split
  · simp only [List.length_cons, List.length_replicate]; omega
  · rw [List.length_append, rep_len, rep_len, show opn.length = 4 from rfl, show cls.length = 2 from rfl]; omega
theorem passN_len (num : Int → ByteArray) : ∀ N : List (Int × Int), (∀ x ∈ N, 0 ≤ x.2) → (passN num N).1.length + 30 * (passN num N).2.length ≤ 30 * N.length
  | [], _ => by simp [passN]
  | n :: r, h => by
    have h1 := nz_len num n.1 n.2 (h n (by simp))
    have h2 := passN_len num r (fun x hx => h x (by simp [hx]))
    rw [passN]
    split
    · simp only [List.length_append, List.length_cons]; omega
    · simp only [List.length_cons]; omega
theorem passN_le (num : Int → ByteArray) : ∀ N : List (Int × Int), (passN num N).2.length ≤ N.length
  | [] => by simp [passN]
  | n :: r => by
    have h2 := passN_le num r
    rw [passN]
    split
    · simp only [List.length_cons]; omega
    · simp only [List.length_cons]; omega
theorem row_len (num : Int → ByteArray) : ∀ (mvs : List ByteArray) (N : List (Int × Int)), (∀ x ∈ N, 0 ≤ x.2) → (rowN num mvs N).length ≤ 30 * N.length + mvs.length
  | [], N, h => by have := passN_len num N h; rw [rowN]; simp only [List.length_nil]; omega
  | m :: r, N, h => by
    have h1 := passN_len num N h
    have h2 := row_len num r (passN num N).2 (fun x hx => h x (passN_sub num N x hx))
    rw [rowN]
    simp only [List.length_append, List.length_cons]
    omega
theorem rep_mem {n : Nat} {l : List S46} {t : S46} (h : t ∈ rep n l) : t ∈ l := by
  unfold rep at h
  obtain ⟨a, ha, ht⟩ := List.mem_flatten.1 h
  rw [List.mem_replicate] at ha
  rw [← ha.2]
  exact ht
theorem nz_size (num : Int → ByteArray) (k d : Int) (h : (num d).size ≤ 100) : ∀ t ∈ nz num k d, t.f1.size ≤ 100 := by
  intro t ht
  unfold nz at ht
  have small : ∀ (l : List S46), (l.all fun t => decide (t.f1.size ≤ 100)) = true → t ∈ l → t.f1.size ≤ 100 := fun l hl hm => of_decide_eq_true (List.all_eq_true.1 hl t hm)
  split at ht
  · exact small _ (by decide) ht
  split at ht
  · exact small _ (by decide) ht
  split at ht
  · exact small _ (by decide) ht
  split at ht
  · rcases List.mem_cons.1 ht with rfl | ht
    · exact h
    · rw [List.mem_replicate] at ht
      rw [ht.2]
      exact of_decide_eq_true rfl
  · rcases List.mem_append.1 ht with ht | ht
    · exact small _ (by decide) (rep_mem ht)
    · exact small _ (by decide) (rep_mem ht)
theorem pass_size (num : Int → ByteArray) : ∀ N : List (Int × Int), (∀ x ∈ N, (num x.2).size ≤ 100) → ∀ t ∈ (passN num N).1, t.f1.size ≤ 100
  | [], _, t, ht => by simp [passN] at ht
  | n :: r, h, t, ht => by
    rw [passN] at ht
    split at ht
    · rcases List.mem_append.1 ht with ht | ht
      · exact nz_size num _ _ (h n (by simp)) t ht
      · exact pass_size num r (fun x hx => h x (by simp [hx])) t ht
    · exact nz_size num _ _ (h n (by simp)) t ht
theorem row_size (num : Int → ByteArray) : ∀ (mvs : List ByteArray) (N : List (Int × Int)), (∀ m ∈ mvs, m.size ≤ 100) → (∀ x ∈ N, (num x.2).size ≤ 100) → ∀ t ∈ rowN num mvs N, t.f1.size ≤ 100
  | [], N, _, h, t, ht => pass_size num N h t ht
  | m :: r, N, hm, h, t, ht => by
    rw [rowN] at ht
    rcases List.mem_append.1 ht with ht | ht
    · exact pass_size num N h t ht
    rcases List.mem_cons.1 ht with rfl | ht
    · exact hm m (by simp)
    · exact row_size num r (passN num N).2 (fun x hx => hm x (by simp [hx])) (fun x hx => h x (passN_sub num N x hx)) t ht
theorem row_step (num : Int → ByteArray) (mvs : List ByteArray) (k : Nat) (m : ByteArray) (toks : List S46) (N : List (Int × Int)) (hm : mvs[k]? = some m) :
    (toks ++ (passN num N).1 ++ [⟨2, m, 0⟩]) ++ rowN num (mvs.drop (k + 1)) (passN num N).2 = toks ++ rowN num (mvs.drop k) N := by
  have hk := (List.getElem?_eq_some_iff.1 hm).1
  have hv := (List.getElem?_eq_some_iff.1 hm).2
  rw [List.drop_eq_getElem_cons hk, hv, rowN]
  simp
end Go.Proofs.YtlpoglkddknedaaDoor.Z

namespace Go.Proofs.YtlpoglkddknedaaDoor.Z
open Go.RowKit Go.Proofs.YtlpoglkddknedaaDoor.T Go.Proofs.YtlpoglkddknedaaDoor.H Go.Proofs.YtlpoglkddknedaaDoorW.PrintWords Go.Proofs.YtlpoglkddknedaaDoorW.PrintLast
set_option linter.unusedVariables false
set_option linter.unusedSimpArgs false
/-- The boxes: the things to pass over (below B), the place of the next one, the row. -/
structure PassV (B b6 b10 b11 : Nat) (vn : Value) (pos : Nat) (vt : Value) (toks : List S46) (W w : World) : Prop where
  l6 : b6 < B
  l10 : B ≤ b10
  l11 : B ≤ b11
  ne : b10 ≠ b11
  h6 : w.heap[b6]? = some (.cells #[vn] 65 (0, 0))
  h11 : w.heap[b11]? = some (.cells #[.int .i64 pos] 3 (0, 0))
  h10 : w.heap[b10]? = some (.cells #[vt] 23 (0, 0))
  bl : Below B W w
  rt : Kd.R k46 46 w B (fun k => k ≠ b10 ∧ k ≠ b11) vt toks
section
variable {B b6 b10 b11 : Nat} {vn : Value} {pos : Nat} {vt : Value} {toks : List S46} {W w : World}
theorem PassV.n10 (h : PassV B b6 b10 b11 vn pos vt toks W w) : some b10 ≠ vt.ownBlock := Kd.R_away h.rt (fun _ hk => hk.1)
theorem PassV.n11 (h : PassV B b6 b10 b11 vn pos vt toks W w) : some b11 ≠ vt.ownBlock := Kd.R_away h.rt (fun _ hk => hk.2)
theorem PassV.n6 (h : PassV B b6 b10 b11 vn pos vt toks W w) : some b6 ≠ vt.ownBlock := fun e => by have := Kd.R_base h.rt b6 e.symm; have := h.l6; omega
theorem PassV.size (h : PassV B b6 b10 b11 vn pos vt toks W w) : B ≤ w.heap.size := by have := blk_lt h.h10; have := h.l10; omega
theorem PassV.fresh (h : PassV B b6 b10 b11 vn pos vt toks W w) (k : Nat) (hk : w.heap.size ≤ k) : k ≠ b10 ∧ k ≠ b11 := by
  have h1 := blk_lt h.h10
  have h2 := blk_lt h.h11
  exact ⟨by omega, by omega⟩
/-- The row was appended to, and laid back. -/
theorem PassV.app (h : PassV B b6 b10 b11 vn pos vt toks W w) {xs : List S46} {v1 : Value} {w1 : World} (ho : Kd.R k46 46 w1 B (fun k => k ≠ b10 ∧ k ≠ b11) v1 (toks ++ xs)) (hb : Below B W w1) (hg : w.grownBy w1 vt.ownBlock) :
    PassV B b6 b10 b11 vn pos v1 (toks ++ xs) W (w1.setCell ⟨b10, 0, none⟩ v1) where
  l6 := h.l6
  l10 := h.l10
  l11 := h.l11
  ne := h.ne
  h6 := blk_far (blk_grown h.h6 hg h.n6) (by have := h.l6; have := h.l10; show b6 ≠ b10; omega) _
  h11 := blk_far (blk_grown h.h11 hg h.n11) (Ne.symm h.ne) _
  h10 := blk_put (blk_grown h.h10 hg h.n10) 0 _ rfl
  bl := hb.setCell (p := ⟨b10, 0, none⟩) h.l10 _
  rt := Kd.R_far (p := ⟨b10, 0, none⟩) ho (fun _ hk => hk.1) _
/-- The place goes on. -/
theorem PassV.next (h : PassV B b6 b10 b11 vn pos vt toks W w) {z : Int} (hz : z = ((pos + 1 : Nat) : Int)) : PassV B b6 b10 b11 vn (pos + 1) vt toks W (w.setCell ⟨b11, 0, none⟩ (.int .i64 z)) where
  l6 := h.l6
  l10 := h.l10
  l11 := h.l11
  ne := h.ne
  h6 := blk_far h.h6 (by have := h.l6; have := h.l11; show b6 ≠ b11; omega) _
  h11 := blk_put h.h11 0 _ (by rw [hz]; rfl)
  h10 := blk_far h.h10 h.ne _
  bl := h.bl.setCell (p := ⟨b11, 0, none⟩) h.l11 _
  rt := Kd.R_far (p := ⟨b11, 0, none⟩) h.rt (fun _ hk => hk.2) _
theorem PassV.below (h : PassV B b6 b10 b11 vn pos vt toks W w) {w1 : World} (hb : Below w.heap.size w w1) : PassV B b6 b10 b11 vn pos vt toks W w1 where
  l6 := h.l6
  l10 := h.l10
  l11 := h.l11
  ne := h.ne
  h6 := blk_below h.h6 hb
  h11 := blk_below h.h11 hb
  h10 := blk_below h.h10 hb
  bl := h.bl.trans (hb.mono h.size)
  rt := Kd.R_below h.rt hb
theorem PassV.cells (h : PassV B b6 b10 b11 vn pos vt toks W w) : w.cell? ⟨b6, 0, none⟩ = some vn ∧ w.cell? ⟨b11, 0, none⟩ = some (.int .i64 pos) ∧ w.cell? ⟨b10, 0, none⟩ = some vt ∧ w.frozen? ⟨b11, 0, none⟩ = false ∧ w.frozen? ⟨b10, 0, none⟩ = false :=
  ⟨(blk_cell h.h6 0).trans rfl, (blk_cell h.h11 0).trans rfl, (blk_cell h.h10 0).trans rfl, blk_frozen h.h11 0, blk_frozen h.h10 0⟩
end
end Go.Proofs.YtlpoglkddknedaaDoor.Z

namespace Go.Proofs.YtlpoglkddknedaaDoor.Z
open Go.RowKit Go.Proofs.YtlpoglkddknedaaDoor.T Go.Proofs.YtlpoglkddknedaaDoor.H Go.Proofs.YtlpoglkddknedaaDoorW.PrintWords Go.Proofs.YtlpoglkddknedaaDoorW.PrintLast Go.Proofs.YtlpoglkddknedaaDoorW.PrintMore
set_option linter.unusedVariables false
set_option linter.unusedSimpArgs false
/-- Within a pass: p of the things are behind it; the answer is X whatever is left. -/
def PassI (B b6 b10 b11 : Nat) (vn : Value) (n : Nat) (N6 : List (Int × Int)) (X : List S46) (Y : List (Int × Int)) (W : World) (k p : Nat) (w : World) : Prop :=
  ∃ vt tk, p ≤ n ∧ p + k = n ∧ X = tk ++ (passN itoaS (N6.drop p)).1 ∧ Y = (passN itoaS (N6.drop p)).2 ∧ tk.length + 40 * k ≤ 100000 ∧ PassV B b6 b10 b11 vn p vt tk W w
theorem noise_at {W w : World} {B : Nat} {A : Option Addr} {N : List (Int × Int)} (hN : ∀ w1, Below B W w1 → ∀ (j : Nat) p, N[j]? = some p → ∃ ad, A = some ad ∧ w1.cell? (ad.add (j * 2)) = some (.int .u8 p.1) ∧ w1.cell? (ad.add (j * 2 + 1)) = some (.int .u8 p.2))
    (hb : Below B W w) (p n : Nat) (hn : (N.take 60).length = n) (hp : p < n) : ∃ ad k d, A = some ad ∧ w.cell? (ad.add (p * 2)) = some (.int .u8 k) ∧ w.cell? ⟨(ad.add (p * 2)).block, (ad.add (p * 2)).off + 1, none⟩ = some (.int .u8 d) ∧ (k, d) ∈ N ∧ (N.take 60).drop p = (k, d) :: (N.take 60).drop (p + 1) ∧ p < N.length := by
  have hpl : p < (N.take 60).length := by omega
  have hpN : p < N.length := by rw [List.length_take] at hpl; omega
  obtain ⟨x, hx⟩ : ∃ x, N[p] = x := ⟨_, rfl⟩
  obtain ⟨k, d⟩ := x
  obtain ⟨ad, e, h1, h2⟩ := hN w hb p (k, d) (by rw [List.getElem?_eq_getElem hpN, hx])
  refine ⟨ad, k, d, e, h1, by rw [← add_field _ _ 1 (by omega)]; exact h2, by rw [← hx]; exact List.getElem_mem _, ?_, hpN⟩
  rw [List.drop_eq_getElem_cons hpl, List.getElem_take, hx]
/-- A box of the call's own beside. -/
theorem PassV.box {B b6 b10 b11 : Nat} {vn : Value} {pos : Nat} {vt : Value} {toks : List S46} {W w : World} (h : PassV B b6 b10 b11 vn pos vt toks W w) (cs : Array Value) (t : TypeId) {z : Int} (hz : z = ((pos + 1 : Nat) : Int)) :
    PassV B b6 b10 b11 vn (pos + 1) vt toks W ((w.alloc (.cells cs t)).setCell ⟨b11, 0, none⟩ (.int .i64 z)) ∧ ((w.alloc (.cells cs t)).setCell ⟨b11, 0, none⟩ (.int .i64 z)).heap[w.heap.size]? = some (.cells cs t (0, 0)) ∧ some w.heap.size ≠ vt.ownBlock ∧ w.heap.size ≠ b10 ∧ w.heap.size ≠ b11 := by
  have hf := h.fresh w.heap.size (Nat.le_refl _)
  refine ⟨(h.below ((Below.refl _ _).alloc (Nat.le_refl _) _)).next hz, blk_far (blk_new w _) hf.2 _, fun e => ?_, hf⟩
  have := ((Kd.R_bound h.rt).1 _ e.symm).2.2.1
  omega
set_option maxHeartbeats 4000000 in
set_option maxRecDepth 100000 in
theorem pass_call (W w : World) (B b6 b10 b11 : Nat) (A : Option Addr) (c : Nat) (N : List (Int × Int)) (n : Nat) (hn : (N.take 60).length = n)
    (hN : ∀ w1, Below B W w1 → ∀ (j : Nat) p, N[j]? = some p → ∃ ad, A = some ad ∧ w1.cell? (ad.add (j * 2)) = some (.int .u8 p.1) ∧ w1.cell? (ad.add (j * 2 + 1)) = some (.int .u8 p.2)) (hr : ∀ p ∈ N, (0 ≤ p.1 ∧ p.1 ≤ 255) ∧ 0 ≤ p.2 ∧ p.2 ≤ 255) (hg : ∀ w1, Below B W w1 → Laid w1)
    (pos : Nat) (hp : pos ≤ n) (vt : Value) (toks : List S46) (hl : toks.length + 40 * (n - pos) ≤ 100000) (h : PassV B b6 b10 b11 (.slice A N.length c) pos vt toks W w) :
    Calls Tryd.prog 29 #[.pointer (some ⟨b11, 0, none⟩), .pointer (some ⟨b6, 0, none⟩), .pointer (some ⟨b10, 0, none⟩)] w fun e w' => e = .returned (.tuple #[]) ∧ ∃ pos' vt', pos' ≤ n ∧ (N.take 60).drop pos' = (passN itoaS ((N.take 60).drop pos)).2 ∧
      PassV B b6 b10 b11 (.slice A N.length c) pos' vt' (toks ++ (passN itoaS ((N.take 60).drop pos)).1) W w' := by
  have hn60 : n ≤ 60 := by rw [← hn, List.length_take]; omega
  have hnl : min (N.length : Int) 60 = (n : Int) := by rw [← hn, List.length_take]; omega
  have hnl2 : n ≤ N.length := by rw [← hn, List.length_take]; omega
  obtain ⟨X, hX⟩ : ∃ X, toks ++ (passN itoaS ((N.take 60).drop pos)).1 = X := ⟨_, rfl⟩
  obtain ⟨Y, hY⟩ : ∃ Y, (passN itoaS ((N.take 60).drop pos)).2 = Y := ⟨_, rfl⟩
  have HS := Lib.hid (show PassI B b6 b10 b11 (.slice A N.length c) n (N.take 60) X Y W (n - pos) pos w from ⟨vt, toks, hp, by omega, hX.symm, hY.symm, hl, h⟩)
  rw [hX, hY]
  clear hX hY h hl hp
  have HNN := Lib.hid hN
  have HGG := Lib.hid hg
  have HRR := Lib.hid hr
  have HHN := Lib.hid hn
  clear hN hg hr hn
  obtain ⟨N6, hN6⟩ : ∃ N6, N.take 60 = N6 := ⟨_, rfl⟩
  rw [hN6] at HHN HS ⊢
  obtain ⟨m, hm⟩ : ∃ m, N.length = m := ⟨_, rfl⟩
  have HNM := Lib.hid hm
  have HN6 := Lib.hid hN6
  rw [hm] at hnl hnl2 HS ⊢
  clear hm hN6
  go_enter Tryd.func29, Tryd.ntmps29
  go_wp2
  go_loopg [4] (n - pos) (fun kq v4 wr => Hid (∃ p, PassI B b6 b10 b11 (.slice A m c) n N6 X Y W kq p wr))
  case atStart => exact Lib.hid ⟨pos, HS.out⟩
  case round =>
    clear HS
    obtain ⟨p, vt, tk, hp, hpk, hX, hY, hl, hv⟩ := hrel.out
    clear hrel
    obtain ⟨c6, c11, c10, f11, f10⟩ := hv.cells
    by_cases hlt : p < n
    · obtain ⟨ad, k, d, rfl, n0, n1, hmem, hdrop, hpN⟩ := noise_at HNN.out hv.bl p n (by rw [HN6.out]; exact HHN.out) hlt
      rw [HN6.out] at hdrop
      obtain ⟨hk, hd⟩ := HRR.out _ hmem
      dsimp only at hk hd
      have hd0 := hd.1
      have hd1 := hd.2
      rw [HNM.out] at hpN
      have hnz := nz_len itoaS k d hd.1
      rw [hdrop, passN] at hX hY
      dsimp only at hX hY
      have HX := Lib.hid hX
      have HY := Lib.hid hY
      have HK := Lib.hid (And.intro hk hd)
      have HV := Lib.hid hv
      have hs11 : ∀ (cs : Array Value) t, (wr.alloc (.cells cs t)).cell? ⟨b11, 0, none⟩ = some (.int .i64 p) := fun cs t => (blk_cell (blk_alloc hv.h11 _) 0).trans rfl
      have hf11 : ∀ (cs : Array Value) t, (wr.alloc (.cells cs t)).frozen? ⟨b11, 0, none⟩ = false := fun cs t => blk_frozen (blk_alloc hv.h11 _) 0
      clear hX hY hv hdrop hmem hk hd
      go_upto_region 3 with (fail)
      obtain ⟨HV3a, h3b, hbo, hb10, hb11⟩ := HV.out.box #[.int .u8 k, .int .u8 d] 68 (z := (p : Int) + 1) (by omega)
      obtain ⟨w3, hw3⟩ : ∃ w3, (wr.alloc (.cells #[.int .u8 k, .int .u8 d] 68)).setCell ⟨b11, 0, none⟩ (.int .i64 ((p : Int) + 1)) = w3 := ⟨_, rfl⟩
      obtain ⟨bx, hbx⟩ : ∃ bx, wr.heap.size = bx := ⟨_, rfl⟩
      rw [hw3, hbx] at h3b
      rw [hw3] at HV3a
      rw [hbx] at hbo hb10 hb11
      rw [hw3, hbx]
      have HVD := Lib.hid (HV3a.below ((Below.refl _ _).drew))
      have h3d := blk_drew h3b
      have HBX := Lib.hid h3d
      have HBO := Lib.hid hbo
      have HBT := Lib.hid hb10
      have HTK := Lib.hid (show Calls Tryd.prog 30 #[.agg #[.int .u8 k, .int .u8 d]] w3.drew fun e w' => ∃ v, e = .returned v ∧ Kd.R k46 46 w' w3.drew.heap.size (fun _ => True) v (nz itoaS k d) ∧ Below w3.drew.heap.size w3.drew w' from tokens_call k d HK.out.1 HK.out.2 w3.drew (HGG.out _ HVD.out.bl))
      have e0 : w3.drew.cell? ⟨b10, 0, none⟩ = some vt := HVD.out.cells.2.2.1
      have e1 : w3.drew.cell? ⟨bx, 0, none⟩ = some (.int .u8 k) := (blk_cell h3d 0).trans rfl
      have e2 : w3.drew.cell? ⟨bx, 1, none⟩ = some (.int .u8 d) := (blk_cell h3d 1).trans rfl
      clear h3b h3d hbo hb10 hb11 HV3a hw3 hbx c6 c11 c10 f11 f10 n0 n1 hs11 hf11
      refine start_ (n := 5) (S := fun w' => w'.cell? ⟨b10, 0, none⟩ = some vt ∧ w'.cell? ⟨bx, 0, none⟩ = some (.int .u8 k) ∧ w'.cell? ⟨bx, 1, none⟩ = some (.int .u8 d)) (ds := [3, 4]) #[false, false, false, false, false] (by kernel_rfl) rfl rfl ⟨e0, e1, e2⟩ (fun hHeld => ?_)
      clear e0 e1 e2
      generalize w3.drew = wd at HVD HBX HTK hHeld ⊢
      refine take_ (i := 0) (N := some 15) (v := ?_) (a' := ?_) #[true, false, false, false, false] rfl rfl (by kernel_rfl) (fun _ _ _ h => h) (Or.inl ⟨by rfl, ?_⟩) hHeld ?_ ?_
      rotate_left
      · rintro w' ⟨s0, s1, s2⟩
        go_simp
        with_reducible rfl
      rotate_left
      · simp only [Act.put, List.setIfInBounds_toArray, List.set_cons_zero, List.set_cons_succ, i64_w, i32_w]
        rfl
      refine take_ (i := 1) (N := some 16) (v := ?_) (a' := ?_) #[true, true, false, false, false] rfl rfl (by kernel_rfl) (fun _ _ _ h => h) (Or.inl ⟨by rfl, ?_⟩) hHeld ?_ ?_
      rotate_left
      · rintro w' ⟨s0, s1, s2⟩
        go_simp
        with_reducible rfl
      rotate_left
      · simp only [Act.put, List.setIfInBounds_toArray, List.set_cons_zero, List.set_cons_succ, i64_w, i32_w]
        rfl
      refine one_ (i := 2) (N := some 17) #[true, true, true, false, false] rfl rfl (by kernel_rfl) (by decide) (fun K hK => ?_)
      refine goes_ Tryd.func30 (by kernel_rfl) rfl #[.agg #[.int .u8 k, .int .u8 d]] (by rfl) rfl rfl (by first | (simp only [List.map_toArray, List.map_cons, List.map_nil]; done) | (simp only [List.map_toArray, List.map_cons, List.map_nil]; rfl)) ?_
      with_reducible refine HTK.out.mono ?_
      rintro e w7 ⟨v7, rfl, hr7, hb7⟩
      refine ⟨_, rfl, ?_⟩
      obtain ⟨A7, c7, e7⟩ := Kd.R_slice hr7
      have HR7 := Lib.hid (Kd.R_reads' (e7 ▸ hr7)).2.2
      have HV7 := Lib.hid (HVD.out.below hb7)
      have HX7 := Lib.hid (blk_below HBX.out hb7)
      obtain ⟨n7, hn7⟩ : ∃ n7, (nz itoaS k d).length = n7 := ⟨_, rfl⟩
      rw [hn7] at e7 HR7
      subst e7
      refine hK.out _ _ ⟨HV7.out.cells.2.2.1, (blk_cell HX7.out 0).trans rfl, (blk_cell HX7.out 1).trans rfl⟩ (fun _ => ?_)
      clear hK K hr7 hb7 HTK HVD HBX
      refine norm_ (a' := ?_) ?_ ?_
      rotate_left
      · show Act.put _ (some 17) _ = _
        simp only [Act.put, List.setIfInBounds_toArray, List.set_cons_zero, List.set_cons_succ, i64_w, i32_w]
        rfl
      refine last_ (i := 3) (N := some 18) #[true, true, true, true, false] rfl rfl (by kernel_rfl) (by decide) (fun K hK => ?_)
      refine Kd.R_append_rows_step k46 (w0 := W) B (by rfl) (.tmp 15) (.tmp 17) 23 46 (.agg #[(.int .i64 0), (.string ⟨#[]⟩), (.int .i64 0)]) 32 rfl Tryd.underlying23 zi46 rfl (by decide) (by omega) vt tk (nz itoaS k d) A7 n7 c7 (fun k_ => k_ ≠ b10 ∧ k_ ≠ b11) (fun _ => False) (by rfl) (by rfl) ?aO ?aR (fun _ _ h => h) (fun _ h => h.elim) ?aF ?aB ?aS ?aL ?_
      case aO => exact HV7.out.rt
      case aR => exact HR7.out
      case aF => exact fun k_ hk_ => HV7.out.fresh k_ hk_
      case aB => exact HV7.out.bl
      case aS => exact HV7.out.size
      case aL => show (tk.length + n7) * 32 ≤ _; omega
      intro v8 w8 ho hb8 hg8 hat8
      obtain ⟨A8, c8, e8⟩ := Kd.R_slice ho
      have HL8 := Lib.hid (show (tk ++ nz itoaS k d).length + 40 * (gk - 1) ≤ 100000 by rw [List.length_append]; omega)
      generalize (tk ++ nz itoaS k d).length = n8 at e8
      subst e8
      have HV8 := Lib.hid (HV7.out.app ho hb8 hg8)
      have HD8 := Lib.hid (blk_grown HV7.out.h10 hg8 HV7.out.n10)
      have HZ8 := Lib.hid (blk_far (p := ⟨b10, 0, none⟩) (blk_grown HX7.out hg8 HBO.out) HBT.out (.slice A8 n8 c8))
      have x8 : w8.cell? ⟨b10, 0, none⟩ = some vt := (blk_cell HD8.out 0).trans rfl
      have y8 : w8.frozen? ⟨b10, 0, none⟩ = false := blk_frozen HD8.out 0
      have z8 : (w8.setCell ⟨b10, 0, none⟩ (.slice A8 n8 c8)).cell? ⟨bx, 1, none⟩ = some (.int .u8 d) := (blk_cell HZ8.out 1).trans rfl
      clear ho hb8 hg8 hat8 HV7 HX7 HR7 HD8 HZ8
      refine hK.out _ _ ?_
      clear hK K
      refine norm_ (a' := ?_) ?_ ?_
      rotate_left
      · show Act.put _ (some 18) _ = _
        simp only [Act.put, List.setIfInBounds_toArray, List.set_cons_zero, List.set_cons_succ, i64_w, i32_w]
        rfl
      refine last_ (i := 4) (N := none) #[true, true, true, true, true] rfl rfl (by kernel_rfl) (by decide) (fun K hK => ?_)
      refine skip_ (w1 := w8.setCell ⟨b10, 0, none⟩ (.slice A8 n8 c8)) (by rfl) rfl ?_ ?_
      · go_simp
        try rfl
      refine hK.out _ _ ?_
      clear hK K x8 y8
      refine done_ (by kernel_rfl) ?_
      have HP8 := Lib.hid (And.intro hpk hlt)
      clear hl hpk hp hnz hHeld
      by_cases hd3 : d % 3 = 0
      · have q3 : (d % 3 == 0) = true := beq_iff_eq.2 hd3
        go_wp2
        go_roundg (gk - 1)
        case measure => have := HP8.out; omega
        case rel => exact Lib.hid ⟨p + 1, _, _, by have := HP8.out; omega, by have := HP8.out; omega, by rw [HX.out, if_pos hd3, List.append_assoc], by rw [HY.out, if_pos hd3], HL8.out, HV8.out⟩
      · have q3 : (d % 3 == 0) = false := beq_eq_false_iff_ne.2 hd3
        go_wp2
        refine bodyPost_ret (results_none rfl _ _ _) rfl ?_
        refine ⟨rfl, p + 1, .slice A8 n8 c8, by have := HP8.out; omega, ?_, ?_⟩
        · rw [HY.out, if_neg hd3]
        · rw [HX.out, if_neg hd3]; exact HV8.out
    · have hpn : p = n := by omega
      have hNil : N6.drop p = [] := List.drop_eq_nil_of_le (by rw [HHN.out]; omega)
      rw [hNil, passN] at hX hY
      dsimp only at hX hY
      rw [List.append_nil] at hX
      have HF := Lib.hid (show N6.drop p = Y ∧ PassV B b6 b10 b11 (.slice A m c) p vt X W wr from ⟨hNil.trans hY.symm, by rw [hX]; exact hv⟩)
      have hlt2 : decide ((p : Int) < (n : Int)) = false := decide_eq_false (by omega)
      clear hX hY hv hNil hl hpk
      go_wp2
      go_end0
      exact ⟨rfl, p, _, hp, HF.out.1, HF.out.2⟩
end Go.Proofs.YtlpoglkddknedaaDoor.Z

namespace Go.Proofs.YtlpoglkddknedaaDoor.Z
open Go.RowKit Go.Proofs.YtlpoglkddknedaaDoor.T Go.Proofs.YtlpoglkddknedaaDoor.H Go.Proofs.YtlpoglkddknedaaDoorW.PrintWords Go.Proofs.YtlpoglkddknedaaDoorW.PrintLast
set_option linter.unusedVariables false
set_option linter.unusedSimpArgs false
/-- The row and the place, ahead of move k. -/
def PassL (B b6 b10 b11 : Nat) (vn : Value) (n : Nat) (N6 : List (Int × Int)) (ms : List ByteArray) (R : List S46) (W : World) (k : Nat) (w : World) : Prop :=
  ∃ p vt tk, p ≤ n ∧ tk ++ rowN itoaS (ms.drop k) (N6.drop p) = R ∧ tk.length + 40 * (n - p) ≤ 2400 + k ∧ PassV B b6 b10 b11 vn p vt tk W w
/-- The same behind the pass. -/
def PassM (B b6 b10 b11 : Nat) (vn : Value) (n : Nat) (N6 : List (Int × Int)) (ms : List ByteArray) (R : List S46) (W : World) (k : Nat) (w : World) : Prop :=
  ∃ p vt tk, p ≤ n ∧ (∀ m, ms[k]? = some m → (tk ++ [⟨2, m, 0⟩]) ++ rowN itoaS (ms.drop (k + 1)) (N6.drop p) = R) ∧ (ms.length ≤ k → tk = R) ∧ tk.length + 40 * (n - p) ≤ 2400 + k ∧ PassV B b6 b10 b11 vn p vt tk W w
theorem pass_l (W w : World) (B b6 b10 b11 : Nat) (A : Option Addr) (c : Nat) (N : List (Int × Int)) (n : Nat) (N6 : List (Int × Int)) (hN6 : N.take 60 = N6) (hn : N6.length = n) (m : Nat) (hm : N.length = m) (ms : List ByteArray) (R : List S46) (k : Nat) (hk : k ≤ 40)
    (hN : ∀ w1, Below B W w1 → ∀ (j : Nat) p, N[j]? = some p → ∃ ad, A = some ad ∧ w1.cell? (ad.add (j * 2)) = some (.int .u8 p.1) ∧ w1.cell? (ad.add (j * 2 + 1)) = some (.int .u8 p.2)) (hr : ∀ p ∈ N, (0 ≤ p.1 ∧ p.1 ≤ 255) ∧ 0 ≤ p.2 ∧ p.2 ≤ 255) (hg : ∀ w1, Below B W w1 → Laid w1)
    (h : PassL B b6 b10 b11 (.slice A m c) n N6 ms R W k w) :
    Calls Tryd.prog 29 #[.pointer (some ⟨b11, 0, none⟩), .pointer (some ⟨b6, 0, none⟩), .pointer (some ⟨b10, 0, none⟩)] w fun e w' => e = .returned (.tuple #[]) ∧ PassM B b6 b10 b11 (.slice A m c) n N6 ms R W k w' := by
  subst hN6 hm
  obtain ⟨p, vt, tk, hp, hR, hl, hv⟩ := h
  have hn60 : n ≤ 60 := by rw [← hn, List.length_take]; omega
  refine (pass_call W w B b6 b10 b11 A c N n hn hN hr hg p hp vt tk (by omega) hv).mono ?_
  rintro e w' ⟨rfl, p2, v2, hp2, hd, hv2⟩
  have hlen := passN_len itoaS ((N.take 60).drop p) (fun x hx => (hr x (List.mem_of_mem_take (List.mem_of_mem_drop hx))).2.1)
  rw [← hd, List.length_drop, List.length_drop, hn] at hlen
  refine ⟨rfl, p2, v2, _, hp2, fun m hm => ?_, fun hk => ?_, ?_, hv2⟩
  · rw [hd, row_step itoaS ms k m tk _ hm]; exact hR
  · rw [List.drop_eq_nil_of_le hk, rowN] at hR; exact hR
  · rw [List.length_append]; omega
theorem parse0_call (ms : List ByteArray) (N6 : List (Int × Int)) (R : List S46) (hR : rowN itoaS ms N6 = R) (nr : Nat) (hnr : R.length = nr) (hm : ∀ m ∈ ms, numF m = false ∧ resF m < 1) (hN : ∀ x ∈ N6, 0 ≤ x.2 ∧ numF (itoaS x.2) = true) (hl : ms.length ≤ 300) (h1 : nr ≤ 100000) (h2 : ∀ t ∈ R, t.f1.size ≤ 100)
    (w : World) (A : Option Addr) (c : Nat) (hC : Kd.C k46 w A nr R) (hc : nr ≤ c) (hg : Laid w) :
    Calls Tryd.prog 10 #[.slice A nr c, .int .i64 0] w fun e w' => ∃ (A8 : Option Addr) (c8 : Nat), e = .returned (.tuple #[.agg #[.slice A8 0 c8, .int .i64 0], .int .i64 0, .int .i64 16]) ∧ Below w.heap.size w w' := by
  subst hR hnr
  refine (Parse_calls A c _ 0 [] 0 0 16 w hC hc (parse_open itoaS ms N6 hm hN hl (by omega) (fun t ht => by have := h2 t ht; omega)) hg).mono ?_
  rintro e w' ⟨v, rfl, hr, hb⟩
  obtain ⟨A4, c4, rfl⟩ := Kd.R_slice hr
  exact ⟨_, _, rfl, hb⟩
def front2 : List S46 := [⟨6, ⟨#[93]⟩, 0⟩, ⟨99, ⟨#[]⟩, 0⟩]
theorem parseE_call (ms : List ByteArray) (mm : Nat) (hmm : ms.length = mm) (N6 : List (Int × Int)) (R : List S46) (hR : rowN itoaS ms N6 = R) (t : S46) (R1 : List S46) (hR1 : R ++ [t] = R1) (nr : Nat) (hnr : R1.length = nr) (x : Int) (ht : (t.f0 = 4 ∧ x = 0) ∨ (t.f0 = 2 ∧ numF t.f1 = false ∧ resF t.f1 = x ∧ 1 ≤ x)) (hts : t.f1.size ≤ 100)
    (hm : ∀ m ∈ ms, numF m = false ∧ resF m < 1) (hN : ∀ x ∈ N6, 0 ≤ x.2 ∧ numF (itoaS x.2) = true) (hl : ms.length ≤ 300) (h1 : nr ≤ 100000) (h2 : ∀ t ∈ R, t.f1.size ≤ 100) (more : List S46) (hmo : more.length ≤ 50) (hms : ∀ t ∈ more, t.f1.size ≤ 9223372036854775807)
    (k : Nat) (hk : k ≤ 2) (L : List S46) (hL : front2.take k ++ (R1 ++ more) = L) (nl : Nat) (hnl : L.length = nl)
    (w : World) (A : Option Addr) (c : Nat) (hC : Kd.C k46 w A nl L) (hc : nl ≤ c) (hg : Laid w) :
    Calls Tryd.prog 10 #[.slice A nl c, .int .i64 (k : Int)] w fun e w' => ∃ (A8 : Option Addr) (c8 : Nat), e = .returned (.tuple #[.agg #[.slice A8 mm c8, .int .i64 x], .int .i64 ((nr : Int) + k), .int .i64 0]) ∧ Kd.R Kd.string 9 w' w.heap.size (fun _ => True) (.slice A8 mm c8) ms ∧ Below w.heap.size w w' := by
  subst hmm hR hR1 hnr hnl
  have hf : (front2.take k).length = k := by rw [List.length_take]; show min k 2 = k; omega
  have hL2 : front2.take k ++ (rowN itoaS ms N6 ++ t :: more) = L := by rw [← hL, List.append_assoc]; rfl
  have hlen : L.length ≤ 140737488351232 := by
    rw [← hL, List.length_append, List.length_append, hf]; omega
  have h3 : ∀ u ∈ front2.take k ++ (rowN itoaS ms N6 ++ t :: more), u.f1.size ≤ 9223372036854775807 := by
    intro u hu
    rcases List.mem_append.1 hu with hu | hu
    · have hu2 := List.mem_of_mem_take hu
      have hall : (front2.all fun t => decide (t.f1.size ≤ 100)) = true := by decide
      have := of_decide_eq_true (List.all_eq_true.1 hall u hu2)
      omega
    rcases List.mem_append.1 hu with hu | hu
    · have := h2 u hu; omega
    rcases List.mem_cons.1 hu with rfl | hu
    · omega
    · exact hms u hu
  have hp := parse_end itoaS ms N6 hm hN hl (front2.take k) more t x ht (by rw [hL2]; exact hlen) h3
  rw [hL2, hf] at hp
  refine (Parse_calls A c L (k : Int) ms x _ 0 w hC hc hp hg).mono ?_
  rintro e w' ⟨v, rfl, hr, hb⟩
  obtain ⟨A4, c4, rfl⟩ := Kd.R_slice hr
  refine ⟨A4, c4, ?_, hr, hb⟩
  rw [List.length_append]
  simp only [List.length_cons, List.length_nil]
  congr 6
  omega
/-- Three slices of tokens in a new row. -/
theorem lit3 (w : World) (A3 : Option Addr) (n3 c3 : Nat) (l3 : List S46) (A6 : Option Addr) (n6 c6 : Nat) (l6 : List S46) (A8 : Option Addr) (n8 c8 : Nat) (l8 : List S46) (h3 : Kd.C k46 w A3 n3 l3 ∧ n3 ≤ c3) (h6 : Kd.C k46 w A6 n6 l6 ∧ n6 ≤ c6) (h8 : Kd.C k46 w A8 n8 l8 ∧ n8 ≤ c8) :
    Kd.C (Kd.slice 46 k46) (w.alloc (.cells #[.slice A3 n3 c3, .slice A6 n6 c6, .slice A8 n8 c8] 23)) (some ⟨w.heap.size, 0, none⟩) 3 [l3, l6, l8] := by
  have hal : Below w.heap.size w (w.alloc (.cells #[.slice A3 n3 c3, .slice A6 n6 c6, .slice A8 n8 c8] 23)) := (Below.refl _ _).alloc (Nat.le_refl _) _
  have e3 := Kd.C_len h3.1
  have e6 := Kd.C_len h6.1
  have e8 := Kd.C_len h8.1
  subst e3 e6 e8
  have key : ∀ (j : Nat) (u : Value), (#[.slice A3 l3.length c3, .slice A6 l6.length c6, .slice A8 l8.length c8] : Array Value)[j]? = some u → (w.alloc (.cells #[.slice A3 l3.length c3, .slice A6 l6.length c6, .slice A8 l8.length c8] 23)).cell? (Addr.add ⟨w.heap.size, 0, none⟩ (j * 1 + 0)) = some u := fun j u hu => by
    rw [Addr.add_lit, Nat.zero_add, World.cell?_alloc_new, Nat.mul_one, Nat.add_zero]; exact hu
  refine ⟨rfl, by decide, fun _ => ⟨_, rfl, fun j p hj => ?_⟩⟩
  have one : ∀ (v : Value), (#[.slice A3 l3.length c3, .slice A6 l6.length c6, .slice A8 l8.length c8] : Array Value)[j]? = some v → ∀ (i : Nat) (u : Value), ([v] : List Value)[i]? = some u → (w.alloc (.cells #[.slice A3 l3.length c3, .slice A6 l6.length c6, .slice A8 l8.length c8] 23)).cell? (Addr.add ⟨w.heap.size, 0, none⟩ (j * 1 + i)) = some u := fun v hv i u hu => by
    match i, hu with
    | 0, hu =>
      obtain rfl := Option.some.inj hu
      exact key j _ hv
  match j, hj with
  | 0, hj =>
    obtain rfl := Option.some.inj hj
    exact ⟨[.slice A3 l3.length c3], rfl, ⟨A3, c3, rfl, h3.2, Kd.C_below h3.1 hal⟩, one _ rfl⟩
  | 1, hj =>
    obtain rfl := Option.some.inj hj
    exact ⟨[.slice A6 l6.length c6], rfl, ⟨A6, c6, rfl, h6.2, Kd.C_below h6.1 hal⟩, one _ rfl⟩
  | 2, hj =>
    obtain rfl := Option.some.inj hj
    exact ⟨[.slice A8 l8.length c8], rfl, ⟨A8, c8, rfl, h8.2, Kd.C_below h8.1 hal⟩, one _ rfl⟩
theorem concat3_call (l3 l6 l8 L : List S46) (hL : l3 ++ (l6 ++ l8) = L) (nl : Nat) (hnl : L.length = nl) (h0 : 0 < nl) (h1 : nl ≤ 1000000) (w : World) (A : Option Addr) (hC : Kd.C (Kd.slice 46 k46) w A 3 [l3, l6, l8]) :
    Calls Tryd.prog 27 #[.slice A 3 3] w fun e w' => ∃ (A4 : Option Addr) (c4 : Nat), e = .returned (.slice A4 nl c4) ∧ (Kd.C k46 w' A4 nl L ∧ nl ≤ c4) ∧ Below w.heap.size w w' := by
  subst hnl
  have hf : ([l3, l6, l8] : List (List S46)).flatten = L := by rw [← hL]; simp
  refine (Concat_kd A 3 [l3, l6, l8] w hC (by show 3 ≤ 1000000; decide) (by rw [hf]; exact h0) (by rw [hf]; exact h1)).mono ?_
  rintro e w' ⟨v, rfl, hr, hb⟩
  rw [hf] at hr
  obtain ⟨A4, c4, rfl⟩ := Kd.R_slice hr
  obtain ⟨h1, h2, h3⟩ := Kd.R_reads' hr
  exact ⟨_, _, rfl, ⟨h3, h2⟩, hb⟩
/-- The end's token. -/
theorem end_good (x : Int) (h : 0 ≤ x ∧ x < 4) : (x = 0 ∧ wordOf x = ⟨#[42]⟩) ∨ (x ≠ 0 ∧ numF (wordOf x) = false ∧ resF (wordOf x) = x ∧ 1 ≤ x ∧ (wordOf x).size ≤ 100) := by
  have hx : x = 0 ∨ x = 1 ∨ x = 2 ∨ x = 3 := by omega
  rcases hx with rfl | rfl | rfl | rfl
  · exact .inl ⟨rfl, rfl⟩
  · exact .inr ⟨by decide, by kernel_rfl, by kernel_rfl, by decide, by decide⟩
  · exact .inr ⟨by decide, by kernel_rfl, by kernel_rfl, by decide, by decide⟩
  · exact .inr ⟨by decide, by kernel_rfl, by kernel_rfl, by decide, by decide⟩
theorem own_neS {w w1 : World} {v : Value} {xs : List ByteArray} {gb : Nat} (hr : Kd.R Kd.string 9 w1 w.heap.size (fun _ => True) v xs) (h : gb < w.heap.size) : some gb ≠ v.ownBlock := fun e => by have := Kd.R_base hr gb e.symm; omega
theorem own_newS {w : World} {b : Nat} {v : Value} {xs : List ByteArray} (hr : Kd.R Kd.string 9 w b (fun _ => True) v xs) : some w.heap.size ≠ v.ownBlock := fun e => by have := ((Kd.R_bound hr).1 _ e.symm).2.2.1; omega
theorem far2S {w : World} {b g : Nat} {v : Value} {xs : List ByteArray} (hr : Kd.R Kd.string 9 w b (fun _ => True) v xs) (h : some g ≠ v.ownBlock) (x y : Value) : Kd.R Kd.string 9 ((w.setCell ⟨g, 0, none⟩ x).setCell ⟨g, 1, none⟩ y) b (fun _ => True) v xs := by
  have h1 := Kd.R_far1 hr rfl h
  have h2 := Kd.R_far (p := ⟨g, 0, none⟩) h1 (fun _ hk => hk.2) x
  have h3 := Kd.R_far (p := ⟨g, 1, none⟩) h2 (fun _ hk => hk.2) y
  exact Kd.R_mono h3 (fun _ _ => trivial)
end Go.Proofs.YtlpoglkddknedaaDoor.Z

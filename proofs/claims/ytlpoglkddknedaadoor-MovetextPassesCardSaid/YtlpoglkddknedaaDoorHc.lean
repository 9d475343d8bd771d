/- MovetextPasses: moves, sym, tag.Word walked. Conditions: as each theorem says. -/
import Derived.Test.YtlpoglkddknedaaDoorPz
import Derived.Test.YtlpoglkddknedaaDoorHw
import Derived.IntWalk
namespace Go.Proofs.YtlpoglkddknedaaDoor.Z
open Go.RowKit Go.Proofs.YtlpoglkddknedaaDoor.T Go.Proofs.YtlpoglkddknedaaDoor.H Go.Proofs.YtlpoglkddknedaaDoorW.PrintWords Go.Proofs.YtlpoglkddknedaaDoorW.PrintLast
set_option linter.unusedVariables false
set_option linter.unusedSimpArgs false
theorem zi9 : (Tryd.prog.info? 9).map (fun i => (i.zero, i.size, i.bytes)) = some (some (.string ⟨#[]⟩), 1, 16) := by kernel_rfl
theorem sym_call (s : ByteArray) (w : World) : Calls Tryd.prog 56 #[.string s] w fun e w' => e = .returned (.agg #[.int .i64 2, .string s, .int .i64 0]) ∧ Below w.heap.size w w' := by
  go_enter Tryd.func56, Tryd.ntmps56
  go_wp2
  refine bodyPost_ret (results_cell_row rfl _ _ w.heap.size 46 #[.int .i64 2, .string s, .int .i64 0] (0, 0) _ rfl (blk_new w _) Tryd.underlying46 rfl (by kernel_rfl)) rfl ?_
  exact ⟨rfl, (Below.refl _ _).alloc (Nat.le_refl _) _⟩
def wordOf (x : Int) : ByteArray := if x = 0 then ⟨#[42]⟩ else if x = 1 then ⟨#[49, 45, 48]⟩ else if x = 2 then ⟨#[48, 45, 49]⟩ else ⟨#[49, 47, 50, 45, 49, 47, 50]⟩
theorem word_call (x : Int) (h : 0 ≤ x ∧ x < 4) (w : World) (hg : Laid w) : Calls Tryd.prog 31 #[.int .i64 x] w fun e w' => e = .returned (.tuple #[.string (wordOf x), .int .i64 0]) ∧ Below w.heap.size w w' := by
  have h0 := (hg.cell 0).trans (show _ = some (.string ⟨#[42]⟩) from rfl)
  have h1 := (hg.cell 1).trans (show _ = some (.string ⟨#[49, 45, 48]⟩) from rfl)
  have h2 := (hg.cell 2).trans (show _ = some (.string ⟨#[48, 45, 49]⟩) from rfl)
  have h3 := (hg.cell 3).trans (show _ = some (.string ⟨#[49, 47, 50, 45, 49, 47, 50]⟩) from rfl)
  clear hg
  have hx : x = 0 ∨ x = 1 ∨ x = 2 ∨ x = 3 := by omega
  rcases hx with rfl | rfl | rfl | rfl
  all_goals
    go_enter Tryd.func31, Tryd.ntmps31
    go_wp2
    go_ret2
    exact ⟨rfl, Below.refl _ _⟩
def mvs7 : List ByteArray := [⟨#[101, 52]⟩, ⟨#[78, 102, 51]⟩, ⟨#[79, 45, 79]⟩, ⟨#[101, 120, 100, 53]⟩, ⟨#[101, 56, 61, 81, 43]⟩, ⟨#[90, 57]⟩, ⟨#[49, 101, 52]⟩]
def mvOf (x : Int) : ByteArray := mvs7.getD (x % 7).toNat ⟨#[]⟩
theorem mv_cell (w : World) (x : Int) (h : 0 ≤ x) : (w.alloc (.cells (mvs7.map Value.string).toArray 9)).cell? ⟨w.heap.size, (x % 7).toNat, none⟩ = some (.string (mvOf x)) := by
  rw [World.cell?_alloc_new]
  have hx : x % 7 = 0 ∨ x % 7 = 1 ∨ x % 7 = 2 ∨ x % 7 = 3 ∨ x % 7 = 4 ∨ x % 7 = 5 ∨ x % 7 = 6 := by omega
  unfold mvOf
  rcases hx with e | e | e | e | e | e | e <;> rw [e] <;> rfl
theorem mv_good (x : Int) (h : 0 ≤ x) : numF (mvOf x) = false ∧ resF (mvOf x) < 1 ∧ (mvOf x).size ≤ 100 := by
  have hx : x % 7 = 0 ∨ x % 7 = 1 ∨ x % 7 = 2 ∨ x % 7 = 3 ∨ x % 7 = 4 ∨ x % 7 = 5 ∨ x % 7 = 6 := by omega
  unfold mvOf
  rcases hx with e | e | e | e | e | e | e <;> rw [e] <;> refine ⟨?_, ?_, ?_⟩ <;> first | kernel_rfl | exact of_decide_eq_true (by kernel_rfl)

theorem take_mv (l : List Int) (ms : List ByteArray) (k : Nat) (h : (l.take 40).map mvOf = ms) (hk : k < (l.take 40).length) : ms.take (k + 1) = ms.take k ++ [mvOf (l.getD k 0)] := by
  have hl : k < l.length := by rw [List.length_take] at hk; omega
  rw [List.take_succ_eq_append_getElem (by rw [← h]; simpa using hk)]
  subst h
  congr 2
  rw [List.getElem_map, List.getElem_take, List.getD_eq_getElem?_getD, List.getElem?_eq_getElem hl]
  rfl
set_option maxHeartbeats 4000000 in
set_option maxRecDepth 100000 in
theorem moves_call (W : World) (A : Option Addr) (c0 : Nat) (l : List Int) (hC : Kd.C (Kd.int .u8) W A l.length l) (hc0 : l.length ≤ c0) (hl : ∀ x ∈ l, 0 ≤ x ∧ x ≤ 255) :
    Calls Tryd.prog 28 #[.slice A l.length c0] W fun e w' => ∃ v, e = .returned v ∧ Kd.R Kd.string 9 w' W.heap.size (fun _ => True) v ((l.take 40).map mvOf) ∧ Below W.heap.size W w' := by
  obtain ⟨n, hn⟩ : ∃ n, (l.take 40).length = n := ⟨_, rfl⟩
  have hn60 : n ≤ 40 := by rw [← hn, List.length_take]; omega
  have hnl : min (l.length : Int) 40 = (n : Int) := by rw [← hn, List.length_take]; omega
  have hnl2 : n ≤ l.length := by rw [← hn, List.length_take]; omega
  obtain ⟨ms, hms⟩ : ∃ ms, (l.take 40).map mvOf = ms := ⟨_, rfl⟩
  have HWL := Lib.hid (show ms.length = n by rw [← hms, List.length_map, hn])
  have HT := Lib.hid (show ∀ k, k < n → ms.take (k + 1) = ms.take k ++ [mvOf (l.getD k 0)] from fun k hk => take_mv l ms k hms (by rw [hn]; exact hk))
  rw [hms]
  have HC := Lib.hid hC
  have HL := Lib.hid hl
  clear hC hl hn hms
  go_enter Tryd.func28, Tryd.ntmps28
  go_upto_region 3 with (fail)
  go_loopw [3, 12] (fun v i wr => ∃ k : Nat, k ≤ n ∧ i = .int .i64 k ∧ Hid (Kd.R Kd.string 9 wr W.heap.size (fun _ => True) v (ms.take k) ∧ Below W.heap.size W wr)) (fun _ i _ => n - (Go.RowKit.intOf i).toNat)
  case atStart => exact ⟨0, Nat.zero_le _, rfl, Lib.hid ⟨Kd.R_nil _ _ _ _ _, Below.refl _ _⟩⟩
  case round =>
    obtain ⟨k, hk, rfl, HP⟩ := hrel
    by_cases hlt : k < n
    · obtain ⟨ad, cc, rfl, hcl, hK, hcell⟩ := Kd.C_get (Kd.C_below HC.out HP.out.2) 0 (k : Int) (by omega) (by omega)
      obtain rfl : cc = [.int .u8 (l.getD k 0)] := hK
      have hx : wr.cell? (ad.add k) = some (.int .u8 (l.getD k 0)) := by
        have h := hcell 0 _ rfl
        rw [Int.toNat_natCast] at h
        simpa [Kd.int, Kd.scalar] using h
      have hmem : l.getD k 0 ∈ l := by
        rw [List.getD_eq_getElem?_getD, List.getElem?_eq_getElem (by omega)]
        exact List.getElem_mem _
      have HXR := Lib.hid (HL.out _ hmem)
      have HTK := Lib.hid (HT.out k hlt)
      obtain ⟨x, hxe⟩ : ∃ x, l.getD k 0 = x := ⟨_, rfl⟩
      rw [hxe] at hx HXR HTK
      clear hcell hmem hcl hxe
      have hx0 := HXR.out.1
      have hx1 := HXR.out.2
      have hmc := mv_cell wr x hx0
      simp only [mvs7, List.map_cons, List.map_nil] at hmc
      have hx7 : x % 7 < 7 := by omega
      have hx70 : 0 ≤ x % 7 := by omega
      obtain ⟨Av, cv, ev⟩ := Kd.R_slice HP.out.1
      have hk2 : (ms.take k).length = k := by rw [List.length_take, HWL.out]; omega
      rw [hk2] at ev
      subst ev
      have HK2 := Lib.hid hk2
      clear hk2
      go_upto_region 6 with (first
        | (at_builtin
           refine Kd.R_append Kd.string (w0 := W) W.heap.size rfl (.tmp 16) (.tmp 22) 25 9 (.string ⟨#[]⟩) 16 rfl Tryd.underlying25 zi9 rfl (by decide) (by omega) (.slice Av k cv) (ms.take k) (mvOf x) [.string (mvOf x)] (fun _ => True) (fun _ => False) rfl (by first | (go_simp; done) | (go_simp; rfl)) ?cP (fun _ hk => hk.elim) ?cF ?cO ?cB ?cS ?cL ?_
           case cP => exact rfl
           case cF => exact fun _ _ => trivial
           case cO => exact Kd.R_alloc HP.out.1 _
           case cB => exact HP.out.2.alloc HP.out.2.size _
           case cS => rw [World.size_alloc]; have := HP.out.2.size; omega
           case cL => have := HK2.out; omega
           intro v2 w2 ho2 hb2 hg2 hat2
           have HR2 := Lib.hid (show Kd.R Kd.string 9 w2 W.heap.size (fun _ => True) v2 (ms.take k ++ [mvOf x]) ∧ Below W.heap.size W w2 from ⟨ho2, hb2⟩)
           clear ho2 hb2 hg2 hat2))
      go_wp2
      go_roundw
      case rel => exact ⟨k + 1, by omega, by go_num, Lib.hid (by rw [HTK.out]; exact HR2.out)⟩
      case measure => simp [Go.RowKit.intOf]; omega
    · have hkn : k = n := by omega
      have hlt2 : decide (k < n) = false := decide_eq_false hlt
      have hP := HP.out
      rw [hkn, List.take_of_length_le (show ms.length ≤ n by rw [HWL.out]; exact Nat.le_refl _)] at hP
      have HPP := Lib.hid hP
      clear hP HP hkn hlt hk
      go_wp2
      go_ret
      exact ⟨_, rfl, HPP.out.1, HPP.out.2⟩
end Go.Proofs.YtlpoglkddknedaaDoor.Z

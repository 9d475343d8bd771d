/- slices.Repeat and slices.Concat of tokens, walked: memory and what they answer. Conditions: those in each statement. -/
import Derived.Test.YtlpoglkddknedaaDoorHu
import Derived.Test.YtlpoglkddknedaaDoorHs3
import Derived.Laws.CopyOwn
import Derived.Laws.OwnMore
import Derived.Deep.Slices
import Derived.Lib.AppendZerosOnto
import Derived.IntWalk
namespace Go.Proofs.YtlpoglkddknedaaDoor.H
open Go.RowKit Go.Shelf Go.Deep Go.Proofs.YtlpoglkddknedaaDoor.T Go.Proofs.YtlpoglkddknedaaDoorW.PrintWords Go.Proofs.YtlpoglkddknedaaDoorW.PrintLast
set_option linter.unusedVariables false
set_option linter.unusedSimpArgs false

/-- 'copy' of elements of three cells each. -/
theorem run_copy3 {P : Program} (w : World) (dT sT ty elem : TypeId) (g o dLen dCap : Nat) (a : Addr) (sLen sCap : Nat) (cur : List Value) (t : TypeId) (cs : List Value)
    (hu : P.underlying dT = some (.slice elem)) (hs : (P.info? elem).map (·.size) = some 3)
    (hg : w.heap[g]? = some (.cells cur.toArray t (0, 0))) (hn : cs.length = Nat.min sLen dLen * 3)
    (hsrc : ∀ j v, cs[j]? = some v → w.cell? (a.add j) = some v) (hfit : o + cs.length ≤ cur.length) (h1 : ∀ v ∈ cs, v.oneCell' = true) :
    (Builtin.copy_ #[dT, sT] ty #[.slice (some ⟨g, o, none⟩) dLen dCap, .slice (some a) sLen sCap]).run P w =
      .ok (goInt (Nat.min sLen dLen)) (w.setRow g (splice cur o cs).toArray) := by
  have hl := run_loadCells_list (P := P) w a cs hsrc
  have hst := run_storeCells_at P g o t cs 0 cur.toArray w hg (by simpa using hfit) h1
  cases hq : P.info? elem with
  | none => simp [hq] at hs
  | some i =>
    have hi : i.size = 3 := by simpa [hq] using hs
    rw [hn] at hl
    simp [Builtin.copy_, run_underlying hu, Builtin.lenOf, Builtin.firstCells, sizeOf, typeInfo, hq, hi, hl, hst, splice]

theorem flat_app (a b : List S46) : flatT (a ++ b) = flatT a ++ flatT b := by unfold flatT; rw [List.flatMap_append]
theorem flat_one (l : List S46) : ∀ u ∈ flatT l, u.oneCell' = true := by
  intro u hu
  unfold flatT at hu
  obtain ⟨x, _, hx⟩ := List.mem_flatMap.1 hu
  simp only [List.mem_cons, List.not_mem_nil, or_false] at hx
  rcases hx with rfl | rfl | rfl <;> rfl
/-- A list c times. -/
def rep (c : Nat) (l : List S46) : List S46 := (List.replicate c l).flatten
theorem rep_add (a b : Nat) (l : List S46) : rep (a + b) l = rep a l ++ rep b l := by unfold rep; rw [← List.replicate_append_replicate, List.flatten_append]
theorem rep_len (c : Nat) (l : List S46) : (rep c l).length = c * l.length := by unfold rep; simp
theorem rep_one (l : List S46) : rep 1 l = l := by unfold rep; simp
/-- What is behind the first q times is the same again. -/
theorem rep_step (c q k : Nat) (l : List S46) (hk : q * l.length + k ≤ c * l.length) (hl : 0 < l.length) : (rep c l).take (q * l.length + k) = (rep c l).take (q * l.length) ++ (rep c l).take k := by
  have hq : q ≤ c := by
    rcases Nat.lt_or_ge c q with h | h
    · have := Nat.mul_lt_mul_of_pos_right h hl; omega
    · exact h
  obtain ⟨d, rfl⟩ := Nat.exists_eq_add_of_le hq
  have e1 : rep (q + d) l = rep q l ++ rep d l := rep_add q d l
  have e2 : rep (q + d) l = rep d l ++ rep q l := by rw [Nat.add_comm]; exact rep_add d q l
  have h1 : (rep (q + d) l).take (q * l.length + k) = rep q l ++ (rep d l).take k := by
    rw [e1, List.take_append, rep_len, List.take_of_length_le (by rw [rep_len]; omega)]
    congr 2
    omega
  have h2 : (rep (q + d) l).take (q * l.length) = rep q l := by
    rw [e1, List.take_append_of_le_length (by rw [rep_len]; exact Nat.le_refl _), List.take_of_length_le (by rw [rep_len]; exact Nat.le_refl _)]
  have h3 : (rep (q + d) l).take k = (rep d l).take k := by
    rw [e2, List.take_append_of_le_length (by rw [rep_len]; rw [Nat.add_mul] at hk; omega)]
  rw [h1, h2, h3]

theorem mul_any (a c N : Nat) (h : c * a = N) (hN : N ≤ 1000000) (ha : a ≤ 1000000) (hc : c ≤ 1000000) (w : World) :
    Calls Tryd.prog 54 #[.int .u64 (a : Int), .int .u64 (c : Int)] w fun e w' => e = .returned (.tuple #[.int .u64 0, .int .u64 (N : Int)]) ∧ w' = w := by
  refine (Tryd.bits_Mul a c (by omega) (by omega) w).mono ?_
  rintro e w1 ⟨rfl, rfl⟩
  rw [Nat.mul_comm a c, h, Nat.div_eq_of_lt (by omega), Nat.mod_eq_of_lt (by omega)]
  exact ⟨rfl, rfl⟩
/-- 'make' of N tokens: a new row of N * 3 cells. -/
theorem make46 (w : World) (N : Nat) (hN : N ≤ 1000000) : ∃ (W1 : World) (cur : List Value), (Instr.makeSlice 23 (.int .i64 (N : Int)) (.int .i64 (N : Int))).run Tryd.prog w = .ok (.slice (some ⟨w.heap.size, 0, none⟩) N N) W1 ∧
    W1.heap[w.heap.size]? = some (.cells cur.toArray 46 (0, 0)) ∧ cur.length = N * 3 ∧ Below w.heap.size w W1 := by
  obtain ⟨i0, hi, hz0, hz1, hz2⟩ := i46
  obtain ⟨W1, hr, hown, hgrow⟩ := run_make_full (w := w) w.heap.size 23 46 i0 _ 3 Tryd.underlying23 hi hz0 hz1 .i64 .i64 N (by rw [hz2]; omega) (by unfold maxLen; omega) (Nat.le_refl _)
  obtain ⟨_, hx⟩ := hown
  rcases hx with ⟨e, _⟩ | ⟨g, cap, cur, e, hbg, hh, hn, hcap, hsz, htk⟩
  · cases e
  · injection e with e1 e2 e3
    injection e1 with e1
    injection e1 with e1
    subst e1 e3
    exact ⟨W1, cur.toList, hr, by rw [Array.toArray_toList]; exact hh, by rw [Array.length_toList]; exact hsz, (Below.refl _ w).grown hgrow (by simp) (by intro k hk; cases hk)⟩

theorem row_below {w w1 : World} {g : Nat} (h : w.heap.size ≤ g) (hb : Below w.heap.size w w1) (cs : Array Value) : Below w.heap.size w (w1.setRow g cs) := below_setRow hb h cs
theorem row_heap {w : World} {g : Nat} {cur cs : List Value} {t : TypeId} (h : w.heap[g]? = some (.cells cur.toArray t (0, 0))) : (w.setRow g cs.toArray).heap[g]? = some (.cells cs.toArray t (0, 0)) := setRow_heap w g _ _ t _ h

theorem size46 (W : World) : (sizeOf 46).run Tryd.prog W = .ok 3 W := by
  obtain ⟨i0, hi, _, hz1, _⟩ := i46
  simp [sizeOf, typeInfo, hi, hz1]
theorem elem23 : Tryd.prog.elem 23 = 46 := by simp [Program.elem, Tryd.underlying23]
theorem und23 : Tryd.prog.underlying 23 = some (.slice (Tryd.prog.elem 23)) := by rw [elem23]; exact Tryd.underlying23
theorem cut23 (W : World) (g n N : Nat) (h : n < N) : (Instr.slice 23 (.slice (some ⟨g, 0, none⟩) N N) (some (.int .i64 (n : Int))) none none).run Tryd.prog W = .ok (.slice (some ⟨g, n * 3, none⟩) (N - n) (N - n)) W := by
  rw [run_slice_l W 23 (some ⟨g, 0, none⟩) N N und23 .i64 (n : Int) (Int.natCast_nonneg _) (by omega), elem23]
  have hne : ¬ N = n := by omega
  simp [size46, sliced, Result.andThen, hne, Addr.add]
  omega
theorem take23 (W : World) (g n N : Nat) (h : n ≤ N) : (Instr.slice 23 (.slice (some ⟨g, 0, none⟩) N N) none (some (.int .i64 (n : Int))) none).run Tryd.prog W = .ok (.slice (some ⟨g, 0, none⟩) n N) W := by
  rw [run_slice_h W 23 (some ⟨g, 0, none⟩) N N und23 .i64 (n : Int) (Int.natCast_nonneg _) (by omega), elem23]
  simp [size46, sliced, Result.andThen, Addr.add]
/-- n of the tokens lie in the row. -/
def Filled (l : List S46) (c N g : Nat) (w0 : World) (n : Nat) (w : World) : Prop := 0 < n ∧ n ≤ N ∧ (n = N ∨ ∃ q, n = q * l.length) ∧ ∃ Z : List Value, Z.length = (N - n) * 3 ∧ w.heap[g]? = some (.cells (flatT ((rep c l).take n) ++ Z).toArray 46 (0, 0)) ∧ Below w0.heap.size w0 w
theorem filled_step {l : List S46} {c N g : Nat} {w0 : World} {n : Nat} {w : World} (hN : c * l.length = N) (hl : 0 < l.length) (hg : w0.heap.size ≤ g) (h : Filled l c N g w0 n w) (hlt : n < N) :
    ∃ (cs cur' : List Value), (∀ ty, (Builtin.copy_ #[23, 23] ty #[.slice (some ⟨g, n * 3, none⟩) (N - n) (N - n), .slice (some ⟨g, 0, none⟩) n N]).run Tryd.prog w = .ok (.int .i64 ((min n (N - n) : Nat) : Int)) (w.setRow g cur'.toArray)) ∧
      Filled l c N g w0 (n + min n (N - n)) (w.setRow g cur'.toArray) := by
  obtain ⟨h0, hn, hq, Z, hZ, hrow, hb⟩ := h
  obtain ⟨k, hk⟩ : ∃ k, min n (N - n) = k := ⟨_, rfl⟩
  rw [hk]
  have hT : (rep c l).length = N := by rw [rep_len]; exact hN
  have hTn : ((rep c l).take n).length = n := by rw [List.length_take, hT]; omega
  have hTk : ((rep c l).take k).length = k := by rw [List.length_take, hT]; omega
  have hkn : k ≤ n := by omega
  have happ : (rep c l).take (n + k) = (rep c l).take n ++ (rep c l).take k := by
    rcases hq with rfl | ⟨q, rfl⟩
    · omega
    · exact rep_step c q k l (by omega) hl
  have hcur : (flatT ((rep c l).take n) ++ Z).length = N * 3 := by rw [List.length_append, flatT_len, hTn, hZ]; omega
  have hsrc : ∀ j v, (flatT ((rep c l).take k))[j]? = some v → w.cell? ((⟨g, 0, none⟩ : Addr).add j) = some v := by
    intro j v hj
    have hj3 : j < k * 3 := by have := (List.getElem?_eq_some_iff.1 hj).1; rwa [flatT_len, hTk] at this
    rw [Lib.add_plain, Nat.zero_add, blk_cell hrow, List.getElem?_toArray, List.getElem?_append_left (by rw [flatT_len, hTn]; omega), ← hj]
    have e : (rep c l).take n = (rep c l).take k ++ ((rep c l).take n).drop k := by
      have := List.take_append_drop k ((rep c l).take n)
      rw [List.take_take, Nat.min_eq_left hkn] at this
      exact this.symm
    rw [e, flat_app, List.getElem?_append_left (by rw [flatT_len, hTk]; omega)]
  refine ⟨flatT ((rep c l).take k), splice (flatT ((rep c l).take n) ++ Z) (n * 3) (flatT ((rep c l).take k)), fun ty => ?_, ?_⟩
  · have hm : Nat.min n (N - n) = k := hk
    have hh := run_copy3 (P := Tryd.prog) w 23 23 ty 46 g (n * 3) (N - n) (N - n) ⟨g, 0, none⟩ n N (flatT ((rep c l).take n) ++ Z) 46 (flatT ((rep c l).take k)) Tryd.underlying23 (by kernel_rfl) hrow (by rw [flatT_len, hTk, hm]) hsrc (by rw [flatT_len, hTk, hcur]; omega) (flat_one _)
    rw [hm] at hh
    exact hh
  · refine ⟨by omega, by omega, ?_, Z.drop (k * 3), by rw [List.length_drop, hZ]; omega, ?_, below_setRow hb hg _⟩
    · by_cases h2 : k = n
      · rcases hq with rfl | ⟨q, rfl⟩
        · omega
        · exact .inr ⟨2 * q, by rw [h2, Nat.mul_assoc]; omega⟩
      · exact .inl (by omega)
    · rw [row_heap hrow]
      congr 2
      unfold splice
      have hA : (flatT ((rep c l).take n)).length = n * 3 := by rw [flatT_len, hTn]
      have hB : (flatT ((rep c l).take k)).length = k * 3 := by rw [flatT_len, hTk]
      rw [happ, flat_app, List.take_append_of_le_length (by rw [hA]; exact Nat.le_refl _), List.take_of_length_le (by rw [hA]; exact Nat.le_refl _), List.drop_append, hA, hB, List.drop_of_length_le (by rw [hA]; omega)]
      rw [show n * 3 + k * 3 - n * 3 = k * 3 by omega, List.nil_append, List.append_assoc]

theorem filled_drew {l : List S46} {c N g : Nat} {w0 : World} {n : Nat} {w : World} (h : Filled l c N g w0 n w) : Filled l c N g w0 n w.drew := by
  obtain ⟨h0, hn, hq, Z, hZ, hrow, hb⟩ := h
  exact ⟨h0, hn, hq, Z, hZ, hrow, below_drew1 hb⟩
attribute [local go_sem] eqlnil23
set_option maxHeartbeats 2000000 in
set_option maxRecDepth 100000 in
theorem Repeat_calls (A0 : Option Addr) (c0 : Nat) (l : List S46) (c : Nat) (w : World) (hr0 : Kd.C k46 w A0 l.length l) (hc0 : l.length ≤ c0) (hl : 0 < l.length) (h1 : 1 ≤ c) (hb : c * l.length ≤ 1000000) (hc6 : c ≤ 1000000) (hb2 : l.length ≤ 1000000) :
    Calls Tryd.prog 26 #[.slice A0 l.length c0, .int .i64 (c : Int)] w fun e w' => ∃ v0_ : Value, e = .returned (v0_) ∧ Kd.R k46 46 w' w.heap.size (fun _ => True) v0_ (rep c l) ∧ Below w.heap.size w w' := by
  obtain ⟨N, hN⟩ : ∃ N, c * l.length = N := ⟨_, rfl⟩
  rw [hN] at hb
  have hlN : l.length ≤ N := by rw [← hN]; exact Nat.le_mul_of_pos_left _ h1
  obtain ⟨ad, e, hcell⟩ := hr0.2.2 hl
  subst e
  have hcell : ∀ j u, (flatT l)[j]? = some u → w.cell? (ad.add j) = some u := fun j u hj => flatT_cell hcell j u hj
  obtain ⟨W1, cur, hmk, hrow, hlen, hb1⟩ := make46 w N hb
  have c1 : decide ((c : Int) < 0) = false := decide_eq_false (by omega)
  have c2 : decide (9223372036854775807 < (N : Int)) = false := decide_eq_false (by omega)
  have hcp : ∀ ty, (Builtin.copy_ #[23, 23] ty #[.slice (some ⟨w.heap.size, 0, none⟩) N N, .slice (some ad) l.length c0]).run Tryd.prog W1 = .ok (.int .i64 (l.length : Int)) (W1.setRow w.heap.size (splice cur 0 (flatT l)).toArray) := fun ty => by
    have hm : Nat.min l.length N = l.length := Nat.min_eq_left hlN
    have h := run_copy3 (P := Tryd.prog) W1 23 23 ty 46 w.heap.size 0 N N ad l.length c0 cur 46 (flatT l) Tryd.underlying23 (by kernel_rfl) hrow (by rw [flatT_len, hm]) (fun j v hj => (hb1.cell (World.block_lt_of_cell? w _ (hcell j v hj))).trans (hcell j v hj)) (by rw [flatT_len, hlen]; omega) (flat_one l)
    rw [hm] at h
    exact h
  have HROW := Lib.hid hrow
  have HB1 := Lib.hid hb1
  clear hr0 hcell hrow hb1
  go_enter Tryd.func26, Tryd.ntmps26
  go_upto_region 8 with (first
    | (go_at_call 54; (with_reducible refine (mul_any l.length c N hN hb hb2 hc6 _).mono ?_); rintro e w1 ⟨rfl, rfl⟩))
  obtain ⟨W2, hW2⟩ : ∃ W2, W1.setRow w1.heap.size (splice cur 0 (flatT l)).toArray = W2 := ⟨_, rfl⟩
  have HF := Lib.hid (show Filled l c N w1.heap.size w1 l.length W2 from by
    refine ⟨hl, hlN, .inr ⟨1, by omega⟩, cur.drop (l.length * 3), by rw [List.length_drop, hlen]; omega, ?_, hW2 ▸ below_setRow HB1.out (Nat.le_refl _) _⟩
    rw [← hW2, row_heap HROW.out]
    congr 2
    have e : (rep c l).take l.length = l := by
      obtain ⟨d, rfl⟩ := Nat.exists_eq_add_of_le h1
      rw [rep_add, rep_one, List.take_append_of_le_length (Nat.le_refl _), List.take_of_length_le (Nat.le_refl _)]
    rw [e]
    unfold splice
    rw [flatT_len, Nat.zero_add, List.take_zero, List.nil_append])
  rw [hW2]
  clear hW2 HROW HB1 hcp hmk hlen
  go_loopg [8] (N - l.length) (fun kq v8 wr => ∃ n : Nat, v8 = .int .i64 (n : Int) ∧ Hid (kq + n = N ∧ Filled l c N w1.heap.size w1 n wr))
  case atStart => exact ⟨l.length, rfl, Lib.hid ⟨by omega, HF.out⟩⟩
  case round =>
    obtain ⟨n, rfl, HX⟩ := hrel
    clear HF
    by_cases hlt : n < N
    · have d1 : decide ((n : Int) < (N : Int)) = true := decide_eq_true (by omega)
      obtain ⟨cs, cur', hcp, hF'⟩ := filled_step (w := wr.drew) hN hl (Nat.le_refl _) (filled_drew HX.out.2) hlt
      obtain ⟨k, hk⟩ : ∃ k, min n (N - n) = k := ⟨_, rfl⟩
      rw [hk] at hcp hF'
      have hk1 : 1 ≤ k := by have := HX.out.2.1; omega
      have HF' := Lib.hid hF'
      clear hF'
      have hnN : (n : Int) ≤ (N : Int) := by omega
      have hnN' : n ≤ N := by omega
      clear hk
      have hs1 := fun W => cut23 W w1.heap.size n N hlt
      have hs2 := fun W => take23 W w1.heap.size n N hnN'
      go_upto_region 9 with (fail)
      go_region
      go_wp2
      have hkN : n + k ≤ N := HF'.out.2.1
      go_roundg (N - (n + k))
      case measure => have := HX.out.1; omega
      case rel => exact ⟨n + k, by rw [IntWalk.wrap64_in _ (by omega)]; rfl, Lib.hid ⟨by omega, HF'.out⟩⟩
    · have d1 : decide ((n : Int) < (N : Int)) = false := decide_eq_false (by omega)
      obtain rfl : n = N := by have := HX.out.2.2.1; omega
      have HF := Lib.hid HX.out.2
      clear HX
      go_wp2
      go_ret
      obtain ⟨_, _, _, Z, hZ, hrow, hb⟩ := HF.out
      obtain rfl : Z = [] := List.eq_nil_of_length_eq_zero (by omega)
      have hT : (rep c l).length = n := by rw [rep_len]; exact hN
      rw [List.append_nil, List.take_of_length_le (by omega)] at hrow
      have hfl : (flatT (rep c l)).length = n * 3 := by rw [flatT_len, hT]
      refine ⟨_, rfl, ⟨fun _ _ => trivial, flatT (rep c l), ?_, flatT_reps _ _ _ _⟩, hb⟩
      show wr.ownsRow w1.heap.size 46 3 (.slice (some ⟨w1.heap.size, 0, none⟩) n n) (rep c l).length (flatT (rep c l))
      rw [hT]
      exact ⟨hfl, .inr ⟨_, n, (flatT (rep c l)).toArray, rfl, Nat.le_refl _, hrow, Nat.le_refl _, by unfold maxLen; omega, by rw [List.size_toArray]; exact hfl, by rw [List.take_of_length_le (by rw [hfl]; exact Nat.le_refl _)]⟩⟩

/-! ### slices.Grow, slices.Concat -/
theorem grow_run (n : Nat) (h0 : 0 < n) (hn : n ≤ 1000000) (w : World) : ∃ (W1 : World) (cap : Nat), (∀ ty, (Builtin.append_ #[23, 3] ty #[.slice none 0 0, .int .i64 (n : Int)]).run Tryd.prog w = .ok (.slice (some ⟨w.heap.size, 0, none⟩) n cap) W1) ∧
    W1.ownsRow w.heap.size 46 3 (.slice (some ⟨w.heap.size, 0, none⟩) 0 cap) 0 [] ∧ Below w.heap.size w W1 := by
  obtain ⟨i0, hi, hz0, hz1, hz2⟩ := i46
  have h := fun ty => Lib.run_append_nil_zeros (P := Tryd.prog) w 23 3 ty 46 i0 _ .i64 .i64 Tryd.underlying23 Tryd.underlying3 hi hz0 n h0 (by rw [hz1]; decide) (by omega) (by rw [hz2]; omega)
  have hge := grownCap_ge w n 0 46
  have hle := grownCap_le_maxLen w n 0 46 (by unfold maxLen; omega)
  obtain ⟨cap, hcap⟩ : ∃ cap, grownCap w n 0 46 = cap := ⟨_, rfl⟩
  rw [hcap] at h hge hle
  refine ⟨_, cap, h, ⟨rfl, .inr ⟨w.heap.size, cap, _, rfl, Nat.le_refl _, blk_new w.drew _, Nat.zero_le _, hle, ?_, rfl⟩⟩, below_alloc (below_drew1 (Below.refl _ _)) _⟩
  have e3 : (Value.agg #[.int .i64 0, .string ⟨#[]⟩, .int .i64 0]).cells.size = 3 := rfl
  rw [Array.size_append, size_zeroCells, size_zeroCells, e3]
  omega
set_option maxHeartbeats 1000000 in
set_option maxRecDepth 100000 in
theorem Grow_calls (n : Nat) (h0 : 0 < n) (hn : n ≤ 1000000) (w : World) :
    Calls Tryd.prog 55 #[.slice none 0 0, .int .i64 (n : Int)] w fun e w' => ∃ v : Value, e = .returned v ∧ w'.ownsRow w.heap.size 46 3 v 0 [] ∧ Below w.heap.size w w' := by
  obtain ⟨W1, cap, hap, hown, hb⟩ := grow_run n h0 hn w
  have c1 : decide ((n : Int) < 0) = false := decide_eq_false (by omega)
  have c2 : decide (0 < (n : Int)) = true := decide_eq_true (by omega)
  have HO := Lib.hid hown
  have HB := Lib.hid hb
  clear hown hb
  go_enter Tryd.func55, Tryd.ntmps55
  have HAP := Lib.hid hap
  clear hap
  go_wp2_with (at_builtin; refine Lib.wpList_append_run w rfl _ _ 23 3 rfl _ _ rfl rfl _ _ (HAP.out _) ?_)
  go_ret
  exact ⟨_, rfl, HO.out, HB.out⟩

/-- Slices of tokens that lie in a slice. -/
def Lies (w : World) (ad : Addr) (L : List (Option Addr × Nat × List S46)) : Prop := ∀ j x, L[j]? = some x → w.cell? (ad.add j) = some (.slice x.1 x.2.2.length x.2.1) ∧ Kd.C k46 w x.1 x.2.2.length x.2.2
def tot (L : List (Option Addr × Nat × List S46)) : Nat := (L.map (fun x => x.2.2.length)).sum
def all (L : List (Option Addr × Nat × List S46)) : List S46 := L.flatMap (fun x => x.2.2)
theorem all_len : ∀ L, (all L).length = tot L
  | [] => rfl
  | x :: r => by have := all_len r; unfold all tot at *; rw [List.flatMap_cons, List.length_append, this, List.map_cons, List.sum_cons]
theorem take_one {α : Type} (L : List α) (x : Nat) (h : x < L.length) : L.take (x + 1) = L.take x ++ [L[x]] := List.take_succ_eq_append_getElem h
theorem tot_take (L : List (Option Addr × Nat × List S46)) (x : Nat) (h : x < L.length) : tot (L.take (x + 1)) = tot (L.take x) + L[x].2.2.length := by
  rw [take_one L x h]; unfold tot; rw [List.map_append, List.sum_append]; simp
theorem all_take (L : List (Option Addr × Nat × List S46)) (x : Nat) (h : x < L.length) : all (L.take (x + 1)) = all (L.take x) ++ L[x].2.2 := by
  rw [take_one L x h]; unfold all; rw [List.flatMap_append]; simp
theorem tot_le (L : List (Option Addr × Nat × List S46)) (x : Nat) : tot (L.take x) ≤ tot L := by
  have h := List.take_append_drop x L
  have : tot L = tot (L.take x) + tot (L.drop x) := by
    conv => lhs; rw [← h]
    unfold tot; rw [List.map_append, List.sum_append]
  omega
theorem append_nil {P : Program} {w : World} {ops : Array Oper} {rest : List Oper} {o : Oper} {a : Act} {Q : Exit → Act → World → Prop} (hgd : o.guard = none) (s x : Operand) (t : TypeId)
    (ho : o.op = .call { callee := .builtin .append, args := #[s, x], argTypes := #[t, t] })
    (base : Nat) (e : TypeId) (i : TypeInfo) (size : Nat) (ht : P.underlying t = some (.slice e)) (hi : P.info? e = some i)
    (v : Value) (n : Nat) (xs : List Value) (hs : a.eval s = v) (hown : w.ownsRow base e size v n xs) (c : Nat) (hx : a.eval x = .slice none 0 c)
    (h : wpList P ops Q rest (a.put o.dst v) w) : wpList P ops Q (o :: rest) a w := by
  refine Lib.wpList_append_run w hgd s x t t ho v _ hs hx v w ?_ h
  rcases hown.2 with ⟨rfl, rfl⟩ | ⟨g, cap, cur, rfl, _, _, hnc, _⟩
  · simp [Builtin.append_, run_underlying ht, sizeOf, typeInfo, hi, Builtin.lenOf, Builtin.firstCells]
  · simp [Builtin.append_, run_underlying ht, sizeOf, typeInfo, hi, Builtin.lenOf, Builtin.firstCells, hnc, storeCells]
theorem own_block_ge {w : World} {base : Nat} {e : TypeId} {size n : Nat} {v : Value} {xs : List Value} (h : w.ownsRow base e size v n xs) : ∀ k, v.ownBlock = some k → base ≤ k := by
  intro k hk
  obtain ⟨_, ⟨rfl, _⟩ | ⟨g, cap, cur, rfl, hb, _⟩⟩ := h
  · cases hk
  · cases hk; exact hb
set_option maxHeartbeats 2000000 in
set_option maxRecDepth 100000 in
theorem Concat_calls (ad : Addr) (c0 : Nat) (L : List (Option Addr × Nat × List S46)) (w : World) (hL : Lies w ad L) (hn : L.length ≤ 1000000) (h0 : 0 < tot L) (ht : tot L ≤ 1000000) :
    Calls Tryd.prog 27 #[.slice (some ad) L.length c0] w fun e w' => ∃ v0_ : Value, e = .returned (v0_) ∧ Kd.R k46 46 w' w.heap.size (fun _ => True) v0_ (all L) ∧ Below w.heap.size w w' := by
  have HL := Lib.hid hL
  clear hL
  go_enter Tryd.func27, Tryd.ntmps27
  go_wp2
  go_loopg [3, 11] L.length (fun kq v3 v11 wr => ∃ (x : Int) (s : Nat), v3 = .int .i64 (s : Int) ∧ v11 = .int .i64 x ∧ Hid (0 ≤ x ∧ kq + x = L.length ∧ wr = w ∧ s = tot (L.take x.toNat)))
  case atStart => exact ⟨0, 0, rfl, rfl, Lib.hid ⟨by decide, by omega, rfl, rfl⟩⟩
  case round =>
    obtain ⟨x, s, rfl, rfl, HX⟩ := hrel
    obtain ⟨hx0, hx1, hwr, hs⟩ := HX.out
    replace hwr := hwr.symm
    subst hwr
    clear HX
    by_cases hlt : x.toNat < L.length
    · have d1 : decide (x < (L.length : Int)) = true := decide_eq_true (by omega)
      have p1 : (0 ≤ x) = True := eq_true hx0
      have p2 : (x < (L.length : Int)) = True := eq_true (by omega)
      have hc := (HL.out x.toNat _ (List.getElem?_eq_getElem hlt)).1
      have ht1 := tot_take L x.toNat hlt
      have ht2 := tot_le L (x.toNat + 1)
      obtain ⟨X, hX⟩ : ∃ X, L[x.toNat] = X := ⟨_, rfl⟩
      rw [hX] at hc ht1
      obtain ⟨A, cc, ll⟩ := X
      dsimp only at hc ht1
      obtain ⟨m, hm⟩ : ∃ m, ll.length = m := ⟨_, rfl⟩
      rw [hm] at hc ht1
      have hw : wrap64 ((s : Int) + (m : Int)) = ((s + m : Nat) : Int) := by rw [IntWalk.wrap64_in _ (by omega)]; omega
      obtain ⟨s2, hs2⟩ : ∃ s2, s + m = s2 := ⟨_, rfl⟩
      rw [hs2] at hw
      have d2 : decide (wrap64 ((s : Int) + (m : Int)) < 0) = false := by rw [hw]; exact decide_eq_false (by omega)
      have HS := Lib.hid (show s2 = tot (L.take (x.toNat + 1)) by rw [ht1, ← hs, hs2])
      have HT := Lib.hid hx1
      clear hX ht1 ht2 hs hs2 hlt hx1
      go_wp2
      go_roundg (gk - 1)
      case measure => have := HT.out; have := of_decide_eq_true d1; omega
      case rel => exact ⟨wrap64 (x + 1), s2, by rw [hw], rfl, Lib.hid (by
        have h1 := HT.out
        have h2 := of_decide_eq_true d1
        rw [IntWalk.wrap64_in _ (by omega)]
        exact ⟨by omega, by omega, rfl, by rw [HS.out]; congr 2; omega⟩)⟩
    · have d1 : decide (x < (L.length : Int)) = false := decide_eq_false (by omega)
      have hsT : s = tot L := by rw [hs, List.take_of_length_le (by omega)]
      subst hsT
      clear hs hx1 hlt hx0
      go_upto_region 10 with (first
        | (go_at_call 55; (with_reducible refine (Grow_calls _ h0 ht _).mono ?_); rintro e w1 ⟨v, rfl, hown, hb⟩; have HO := Lib.hid hown; have HB := Lib.hid hb; clear hown hb))
      go_wp2
      go_loopg [6, 27] L.length (fun kq v6 v27 w' => ∃ (x : Int), v27 = .int .i64 x ∧ Hid (0 ≤ x ∧ kq + x = L.length ∧ w'.ownsRow w.heap.size 46 3 v6 (tot (L.take x.toNat)) (flatT (all (L.take x.toNat))) ∧ Below w.heap.size w w'))
      case atStart => exact ⟨0, rfl, Lib.hid ⟨by decide, by omega, HO.out, HB.out⟩⟩
      case round =>
        clear HO HB
        obtain ⟨y, rfl, HX⟩ := hrel
        by_cases hlt : y.toNat < L.length
        · have d1 : decide (y < (L.length : Int)) = true := decide_eq_true (by have := HX.out; omega)
          have p1 : (0 ≤ y) = True := eq_true HX.out.1
          have p2 : (y < (L.length : Int)) = True := eq_true (by have := HX.out; omega)
          have hX := HL.out y.toNat _ (List.getElem?_eq_getElem hlt)
          have ht1 := tot_take L y.toNat hlt
          have ha1 := all_take L y.toNat hlt
          have ht2 := tot_le L (y.toNat + 1)
          obtain ⟨X, hXe⟩ : ∃ X, L[y.toNat] = X := ⟨_, rfl⟩
          rw [hXe] at hX ht1 ha1
          obtain ⟨A, cc, ll⟩ := X
          dsimp only at hX ht1 ha1
          obtain ⟨hc, hC⟩ := hX
          have hc := (HX.out.2.2.2.cell (World.block_lt_of_cell? w _ hc)).trans hc
          rw [ht1] at ht2
          have HT1 := Lib.hid ht1
          have HA1 := Lib.hid ha1
          have HT2 := Lib.hid ht2
          clear hXe ht1 ha1 ht2 hlt
          cases A with
          | none =>
            obtain rfl : ll = [] := by
              cases ll with
              | nil => rfl
              | cons t r => obtain ⟨ad', e, _⟩ := hC.2.2 (Nat.succ_pos _); cases e
            clear hC
            obtain ⟨i0, hi, _⟩ := i46
            have HI := Lib.hid hi
            clear hi
            go_wp2_with (at_builtin; refine append_nil rfl _ _ 23 rfl w.heap.size 46 i0 3 Tryd.underlying23 HI.out _ _ _ rfl HX.out.2.2.1 cc rfl ?_)
            go_roundg (gk - 1)
            case measure => have := HX.out.2.1; have := of_decide_eq_true d1; omega
            case rel => exact ⟨wrap64 (y + 1), rfl, Lib.hid (by
              have h1 := HX.out
              have h2 := of_decide_eq_true d1
              rw [IntWalk.wrap64_in _ (by omega), show (y + 1).toNat = y.toNat + 1 by omega, HT1.out, HA1.out, List.append_nil]
              exact ⟨by omega, by omega, h1.2.2⟩)⟩
          | some a =>
            have hcell : ∀ j u, (flatT ll)[j]? = some u → wr.cell? (a.add j) = some u := by
              intro j u hj
              have hlt : j < ll.length * 3 := by rw [← flatT_len]; exact (List.getElem?_eq_some_iff.1 hj).1
              obtain ⟨ad', e, h⟩ := hC.2.2 (by omega)
              obtain rfl := Option.some.inj e
              have h := flatT_cell h j u hj
              exact (HX.out.2.2.2.cell (World.block_lt_of_cell? w _ h)).trans h
            obtain ⟨i0, hi, hz0, hz1, hz2⟩ := i46
            have HI := Lib.hid hi
            have HZ0 := Lib.hid hz0
            have HZ1 := Lib.hid hz1
            have HZ2 := Lib.hid hz2
            have HC := Lib.hid hcell
            clear hi hz0 hz1 hz2 hcell hC
            go_wp2_with (at_builtin; refine wpList_append_own _ rfl _ _ 23 rfl w.heap.size 46 i0 (.agg #[(.int .i64 0), (.string ⟨#[]⟩), (.int .i64 0)]) 3 32 Tryd.underlying23 HI.out HZ0.out HZ1.out HZ2.out rfl (by decide) _ _ _ rfl HX.out.2.2.1 a ll.length cc (flatT ll) rfl (flatT_len ll) HC.out (flat_one ll) (by have := HT2.out; unfold maxLen; omega) (by have := HT2.out; omega) HX.out.2.2.2.size ?_; intro v' w2 hown2 hgrow2 _; have HO2 := Lib.hid hown2; have HG2 := Lib.hid hgrow2; clear hown2 hgrow2)
            have HB2 := Lib.hid (HX.out.2.2.2.grown HG2.out HX.out.2.2.2.size (own_block_ge HX.out.2.2.1))
            go_roundg (gk - 1)
            case measure => have := HX.out.2.1; have := of_decide_eq_true d1; omega
            case rel => exact ⟨wrap64 (y + 1), rfl, Lib.hid (by
              have h1 := HX.out
              have h2 := of_decide_eq_true d1
              rw [IntWalk.wrap64_in _ (by omega), show (y + 1).toNat = y.toNat + 1 by omega, HT1.out, HA1.out, flat_app]
              exact ⟨by omega, by omega, HO2.out, HB2.out⟩)⟩
        · have d1 : decide (y < (L.length : Int)) = false := decide_eq_false (by have := HX.out; omega)
          have hall : L.take y.toNat = L := List.take_of_length_le (by omega)
          rw [hall] at HX
          go_wp2
          go_ret
          have ho := HX.out.2.2.1
          refine ⟨_, rfl, ⟨fun _ _ => trivial, flatT (all L), ?_, flatT_reps _ _ _ _⟩, HX.out.2.2.2⟩
          rw [← all_len] at ho
          exact ho
/-- The same, the slices' elements named as the kinds name them. -/
theorem Concat_kd (A0 : Option Addr) (c0 : Nat) (l0 : List (List S46)) (w : World) (hr0 : Kd.C (Kd.slice 46 k46) w A0 l0.length l0) (hn : l0.length ≤ 1000000) (h0 : 0 < l0.flatten.length) (ht : l0.flatten.length ≤ 1000000) :
    Calls Tryd.prog 27 #[.slice A0 l0.length c0] w fun e w' => ∃ v0_ : Value, e = .returned (v0_) ∧ Kd.R k46 46 w' w.heap.size (fun _ => True) v0_ l0.flatten ∧ Below w.heap.size w w' := by
  have hpos : 0 < l0.length := by
    cases l0 with
    | nil => simp at h0
    | cons x r => exact Nat.succ_pos _
  obtain ⟨ad, e, hcell⟩ := hr0.2.2 hpos
  subst e
  have each : ∀ j, j < l0.length → ∃ y : Option Addr × Nat, w.cell? (ad.add j) = some (.slice y.1 (l0.getD j []).length y.2) ∧ Kd.C k46 w y.1 (l0.getD j []).length (l0.getD j []) := by
    intro j hj
    obtain ⟨c, hcl, hK, hcc⟩ := hcell j _ (List.getElem?_eq_getElem hj)
    obtain ⟨A, cc, rfl, _, hC⟩ := hK
    have h1 := hcc 0 _ rfl
    change w.cell? (ad.add (j * 1 + 0)) = _ at h1
    rw [show j * 1 + 0 = j by omega] at h1
    have e : l0.getD j [] = l0[j] := by simp [List.getD_eq_getElem?_getD, hj]
    rw [e]
    exact ⟨(A, cc), h1, hC⟩
  obtain ⟨Y, hY⟩ := choose_lt each
  let L : List (Option Addr × Nat × List S46) := (List.range l0.length).map fun j => ((Y j).1, (Y j).2, l0.getD j [])
  have hlen : L.length = l0.length := by simp [L]
  have hall : all L = l0.flatten := by
    have e : L.map (fun x => x.2.2) = l0 := by
      refine List.ext_getElem (by simp [L]) fun j h1 h2 => ?_
      simp [L, List.getD_eq_getElem?_getD, h2]
    unfold all
    rw [List.flatMap_def, e]
  have htot : tot L = l0.flatten.length := by rw [← hall, all_len]
  have hLies : Lies w ad L := by
    intro j x hx
    have hj : j < l0.length := by have := (List.getElem?_eq_some_iff.1 hx).1; rw [hlen] at this; exact this
    simp only [L, List.getElem?_map, List.getElem?_range hj, Option.map_some] at hx
    obtain rfl := Option.some.inj hx
    exact hY j hj
  have h := Concat_calls ad c0 L w hLies (by omega) (by omega) (by omega)
  rw [hlen, hall] at h
  exact h
end Go.Proofs.YtlpoglkddknedaaDoor.H

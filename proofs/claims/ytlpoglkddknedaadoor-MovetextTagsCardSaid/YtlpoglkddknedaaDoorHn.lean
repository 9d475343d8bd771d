/- MovetextTags walked: it answers true. Conditions: the list's bytes are a byte's, the variables hold what their initialisers lay. -/
import Derived.Test.YtlpoglkddknedaaDoorHk
import Derived.Test.YtlpoglkddknedaaDoorHw
import Derived.Test.YtlpoglkddknedaaDoorHo
import Derived.IntWalk
import Derived.Lib.ItoaLen
namespace Go.Proofs.YtlpoglkddknedaaDoor.G
open Go.RowKit Go.Shelf Go.Proofs.YtlpoglkddknedaaDoor.T Go.Proofs.YtlpoglkddknedaaDoor.H Go.Proofs.YtlpoglkddknedaaDoorW.PrintWords Go.Proofs.YtlpoglkddknedaaDoorW.PrintLast
set_option linter.unusedVariables false
set_option linter.unusedSimpArgs false
theorem gi56 : (Tryd.prog.info? 56).map (fun i => (i.zero, i.size, i.bytes)) = some (some (.agg #[(.string ⟨#[]⟩), (.string ⟨#[]⟩)]), 2, 32) := by kernel_rfl
def nmOf (x : Int) : ByteArray := ⟨(Lib.itoa x).toArray⟩
def vlOf (x : Int) : ByteArray := ⟨(Lib.repeatL [118] (x % 5).toNat).toArray⟩
def tagOf (x : Int) : S56 := ⟨⟨#[78]⟩ ++ nmOf x, vlOf x⟩
theorem nm_call (x : Int) (h : 0 ≤ x ∧ x ≤ 255) : (∀ w : World, Laid w → Calls Tryd.prog 14 #[.int .i64 x] w fun e w' => e = .returned (.string (nmOf x)) ∧ Below w.heap.size w w') ∧ (nmOf x).size ≤ 21 :=
  ⟨fun w hg => itoa_any x h.1 (by omega) w hg, Lib.itoa_length_le x (by omega) (by omega)⟩
theorem vl_call (x : Int) (h : 0 ≤ x ∧ x ≤ 255) (w : World) : Calls Tryd.prog 33 #[.string ⟨#[118]⟩, .int .i64 (x % 5)] w fun e w' => e = .returned (.string (vlOf x)) ∧ Below w.heap.size w w' := by
  have e : x % 5 = (((x % 5).toNat : Nat) : Int) := by omega
  have hh := Tryd.strings_Repeat ⟨#[118]⟩ (x % 5).toNat w (by omega) (by show 1 * _ ≤ _; omega)
  rw [← e] at hh
  exact hh
theorem tagRow_len (b : Nat → Bool) : ∀ (l : List S56) (n : Nat), (tagRow b n l).length ≤ 8 * l.length
  | [], _ => by simp [tagRow]
  | t :: l, n => by
    have ih := tagRow_len b l (n + 4)
    have h : ∀ b t, (cm b t).length ≤ 1 := fun b t => by cases b <;> simp [cm]
    have h0 := h (b n) tO
    have h1 := h (b (n + 1)) (tN t.f0)
    have h2 := h (b (n + 2)) (tV t.f1)
    have h3 := h (b (n + 3)) tC
    simp only [tagRow, tag3, List.length_append, List.length_cons]
    omega
theorem put_start (g B : Nat) (W0 : World) (c : Nat) (hg : g < B) (hB : W0.heap.size = B) (h4 : W0.heap[g]? = some (.cells #[.int .u32 (c : Int)] 72 (0, 0))) :
    PutV B g B (B + 1) g #[.int .u32 (c : Int)] 72 c 0 (.slice none 0 0) (.slice none 0 0) [] [] W0 ((W0.alloc (.cells #[.slice none 0 0] 23)).alloc (.cells #[.int .i64 0] 3)) where
  l4 := hg
  l7 := Nat.le_refl _
  l9 := by omega
  ne := by omega
  nx := by constructor <;> omega
  hx := blk_alloc (blk_alloc h4 _) _
  h4 := blk_alloc (blk_alloc h4 _) _
  h9 := by
    have h := blk_new (W0.alloc (.cells #[.slice none 0 0] 23)) (.cells #[.int .i64 0] 3)
    rw [World.size_alloc, hB] at h
    exact h
  h7 := by subst hB; exact blk_alloc (blk_new W0 _) _
  bl := by subst hB; exact ((Below.refl _ _).alloc (Nat.le_refl _) _).alloc (by rw [World.size_alloc]; omega) _
  rt := Kd.R_nil _ _ _ _ _
  rw_ := Kd.R_nil _ _ _ _ _
theorem PutV.back {B b4 b7 b9 bx : Nat} {cx : Array Value} {tx : TypeId} {c at_ : Nat} {vw vt : Value} {toks : List S46} {want : List S56} {W w : World}
    (h : PutV B b4 b7 b9 bx cx tx c at_ vw vt toks want W w) : PutV B b4 b7 b9 b4 #[.int .u32 (c : Int)] 72 c at_ vw vt toks want W w where
  l4 := h.l4
  l7 := h.l7
  l9 := h.l9
  ne := h.ne
  nx := by have h1 := h.l4; have h2 := h.l7; have h3 := h.l9; constructor <;> omega
  hx := h.h4
  h4 := h.h4
  h9 := h.h9
  h7 := h.h7
  bl := h.bl
  rt := Kd.R_mono (Kd.R_bound h.rt) (fun k hk => ⟨⟨hk.1.1.1, hk.1.1.2.1, by have h1 := h.l4; have h2 := hk.2.1; omega⟩, hk.1.2⟩)
  rw_ := Kd.R_mono (Kd.R_bound h.rw_) (fun k hk => ⟨⟨hk.1.1.1, hk.1.1.2.1, by have h1 := h.l4; have h2 := hk.2.1; omega⟩, hk.1.2⟩)
theorem cm_len (b : Bool) (t : S46) : (cm b t).length ≤ 1 := by cases b <;> simp [cm]
theorem put_len (toks : List S46) (b : Bool) (t u : S46) : (toks ++ (cm b t ++ [u])).length ≤ toks.length + 2 := by
  have := cm_len b t
  simp only [List.length_append, List.length_cons, List.length_nil]
  omega
theorem row_ge (b : Nat → Bool) : ∀ (l : List S56) (n : Nat), 4 * l.length ≤ (tagRow b n l).length
  | [], _ => by simp
  | t :: l, n => by
    have ih := row_ge b l (n + 4)
    simp only [tagRow, tag3, List.length_append, List.length_cons]
    omega
theorem row_next (b : Nat → Bool) (want : List S56) (k : Nat) (hk : want.length = k) (t : S56) : tagRow b 0 (want ++ [t]) =
    (((tagRow b 0 want ++ (cm (b (4 * k)) tO ++ [tO])) ++ (cm (b (4 * k + 1)) (tN t.f0) ++ [tN t.f0])) ++ (cm (b (4 * k + 1 + 1)) (tV t.f1) ++ [tV t.f1])) ++ (cm (b (4 * k + 1 + 1 + 1)) tC ++ [tC]) := by
  rw [row_app, hk]
  simp [tagRow, tag3]
theorem tagsF_row (b : Nat → Bool) (ts : List S56) (rest : List S46) (hr : stops rest) (h : ts.length ≤ 24) (hl : rest.length ≤ 1000) : tagsF (tagRow b 0 ts ++ rest) 0 = some (ts, ((tagRow b 0 ts).length : Int), 0) := by
  have h1 := tagRow_len b ts 0
  have h2 := row_ge b ts 0
  unfold tagsF
  rw [if_neg (by omega), if_pos (by simp only [List.length_append]; omega)]
  have h3 := tags_row b rest hr ts 0 ((tagRow b 0 ts ++ rest).length + 1) [] (tagRow b 0 ts ++ rest) [] rfl (by simp only [List.length_append]; omega) (by simpa using h)
  simpa using h3
theorem tagsF_cut (b : Nat → Bool) (ts : List S56) (hne : ts ≠ []) (h : ts.length ≤ 24) (bit : Nat) (hb : bit = 0 ∨ bit = 1 ∧ b (4 * ts.length - 1) = true) : tagsF ((tagRow b 0 ts).take ((tagRow b 0 ts).length - 1 - bit)) 0 = some ([], 0, 16) := by
  obtain ⟨ini, u, rfl⟩ : ∃ ini u, ts = ini ++ [u] := ⟨ts.dropLast, ts.getLast hne, (List.dropLast_concat_getLast hne).symm⟩
  obtain ⟨c, e⟩ : ∃ c, (tagRow b 0 (ini ++ [u])).take ((tagRow b 0 (ini ++ [u])).length - 1 - bit) = tagRow b 0 ini ++ tag3 b (0 + 4 * ini.length) u (cm c tC) := by
    have e0 : tagRow b 0 (ini ++ [u]) = (tagRow b 0 ini ++ tag3 b (0 + 4 * ini.length) u (cm (b (0 + 4 * ini.length + 3)) tC)) ++ [tC] := by
      rw [row_app, List.append_assoc, ← tag3_app]
      simp [tagRow]
    rcases hb with rfl | ⟨rfl, hb⟩
    · refine ⟨b (0 + 4 * ini.length + 3), ?_⟩
      rw [e0]
      refine List.take_left' ?_
      simp only [List.length_append, List.length_cons, List.length_nil]
      omega
    · have hx : b (0 + 4 * ini.length + 3) = true := by
        rw [show 0 + 4 * ini.length + 3 = 4 * (ini ++ [u]).length - 1 by simp; omega]; exact hb
      refine ⟨false, ?_⟩
      rw [e0, hx, tag3_nil, show cm true tC = [⟨10, tC.f1, 0⟩] from rfl, show cm false tC = [] from rfl]
      rw [show tagRow b 0 ini ++ (tag3 b (0 + 4 * ini.length) u [] ++ [(⟨10, tC.f1, 0⟩ : S46)]) ++ [tC] = (tagRow b 0 ini ++ tag3 b (0 + 4 * ini.length) u []) ++ [⟨10, tC.f1, 0⟩, tC] by simp]
      refine List.take_left' ?_
      simp only [List.length_append, List.length_cons, List.length_nil]
      omega
  have h1 := tagRow_len b (ini ++ [u]) 0
  have h4 : ini.length ≤ ((tagRow b 0 (ini ++ [u])).take ((tagRow b 0 (ini ++ [u])).length - 1 - bit)).length := by
    rw [e, List.length_append]; have := row_ge b ini 0; omega
  have h5 : ((tagRow b 0 (ini ++ [u])).take ((tagRow b 0 (ini ++ [u])).length - 1 - bit)).length ≤ 1000 := by
    rw [List.length_take]; omega
  obtain ⟨L, hL⟩ : ∃ L, (tagRow b 0 (ini ++ [u])).take ((tagRow b 0 (ini ++ [u])).length - 1 - bit) = L := ⟨_, rfl⟩
  rw [hL] at e h4 h5 ⊢
  unfold tagsF
  rw [if_neg (by omega), if_pos (by omega)]
  have h3 := tags_cut b (0 + 4 * ini.length) u c ini 0 (L.length + 1) [] L [] (by rw [e]; rfl) (by omega) (by simp at h ⊢; omega)
  simpa using h3
theorem eqG (l : List S56) (hl : l.length ≤ 1000) : ∀ (n j : Nat), l.length - j ≤ n → j ≤ l.length → api_Tag.l0 (n + 1) l l (l.length : Int) (j : Int) = some true := by
  intro n
  induction n with
  | zero =>
    intro j hj hjl
    rw [api_Tag.l0, if_neg (show ¬ (j : Int) < (l.length : Int) by omega)]
  | succ n ih =>
    intro j hj hjl
    rw [api_Tag.l0]
    by_cases h : j < l.length
    · have hs : wrap64 ((j : Int) + 1) = ((j + 1 : Nat) : Int) := by rw [IntWalk.wrap64_in _ (by omega)]; rfl
      simp only [if_pos (show (j : Int) < (l.length : Int) by omega), if_pos (show (0 : Int) ≤ j by omega), hs, beq_self_eq_true, Bool.not_true, Bool.or_self, Bool.false_eq_true, ↓reduceIte]
      exact ih (j + 1) (by omega) (by omega)
    · rw [if_neg (show ¬ (j : Int) < (l.length : Int) by omega)]
theorem eqG_call (l : List S56) (n : Nat) (hn : l.length = n) (hl : n ≤ 1000) (w : World) (A0 A1 : Option Addr) (c0 c1 : Nat) (h0 : Kd.C k56 w A0 n l) (hc0 : n ≤ c0) (h1 : Kd.C k56 w A1 n l) (hc1 : n ≤ c1) :
    Calls Tryd.prog 21 #[.slice A0 n c0, .slice A1 n c1] w fun e w' => e = .returned (.bool true) ∧ Below w.heap.size w w' := by
  subst hn
  refine (api_Tag.calls (l.length + 1) A0 c0 l A1 c1 l true w h0 hc0 h1 hc1 ?_).mono ?_
  · unfold api_Tag.f
    rw [if_pos rfl]
    exact eqG l hl l.length 0 (by omega) (by omega)
  · rintro e w' ⟨rfl, nd, rfl⟩
    exact ⟨rfl, belDrew (Below.refl _ _) nd⟩
theorem after_append {B b4 b7 b9 bx : Nat} {cx : Array Value} {tx : TypeId} {c at_ : Nat} {vw vt : Value} {toks : List S46} {want ts : List S56} {W0 wr w1 w2 : World} {v1 : Value} {cs : Array Value}
    (hv : PutV B b4 b7 b9 bx cx tx c at_ vw vt toks want W0 wr) (hb : Below wr.heap.size wr w1) (hr : Kd.R k56 56 w1 wr.heap.size (fun _ => True) v1 ts) (hg : (w1.alloc (.cells cs 46)).grownBy w2 vt.ownBlock) :
    Below B W0 w2 ∧ w2.heap[b7]? = some (.cells #[vt] 23 (0, 0)) ∧ w2.heap[b4]? = some (.cells #[.int .u32 (c : Int)] 72 (0, 0)) ∧
      (∀ A n c, v1 = .slice A n c → n = ts.length ∧ n ≤ c ∧ Kd.C k56 w2 A ts.length ts) ∧ (∀ A n c, vw = .slice A n c → n = want.length ∧ n ≤ c ∧ Kd.C k56 w2 A want.length want) := by
  have hv1 := hv.below hb
  have hal : Below w1.heap.size w1 (w1.alloc (.cells cs 46)) := (Below.refl _ _).alloc (Nat.le_refl _) _
  have hv2 := hv1.below hal
  have hvt : ∀ k, vt.ownBlock = some k → B ≤ k := Kd.R_base hv.rt
  refine ⟨hv2.bl.grown hg hv2.size hvt, blk_grown hv2.h7 hg hv2.b7_, blk_grown hv2.h4 hg hv2.b4_, ?_, ?_⟩
  · rintro A n c rfl
    obtain ⟨inner, hown⟩ := Kd.R_own hv.rt
    have h1 : Kd.R k56 56 w1 wr.heap.size (fun k => True ∧ some k ≠ vt.ownBlock) (.slice A n c) ts := Kd.R_mono (Kd.R_bound hr) (fun k hk => ⟨trivial, fun e => by have := own_lt hown k e.symm; have := hk.2.1; omega⟩)
    have h2 := Kd.R_below h1 hal
    have h3 : Kd.R k56 56 w2 wr.heap.size _ (.slice A n c) ts := Kd.R_move (Kd.R_bound h2) (fun k hk => hg.block k hk.2.2.1 hk.1.2)
    exact Kd.R_reads' h3
  · rintro A n c rfl
    have h3 : Kd.R k56 56 w2 B _ (.slice A n c) want := Kd.R_move (Kd.R_bound hv2.rw_) (fun k hk => hg.block k hk.2.2.1 hk.1.2)
    exact Kd.R_reads' h3
theorem bit_cut (c s : Nat) (hc : c < 4294967296) : bits BinOp.and IntKind.u32 (((c : Int) / 2 ^ min s 32).tmod 32) 1 = ((c / 2 ^ min s 32 % 2 : Nat) : Int) := by
  have e : (c : Int) / 2 ^ min s 32 = ((c / 2 ^ min s 32 : Nat) : Int) := by simp
  have hl : c / 2 ^ min s 32 ≤ c := Nat.div_le_self _ _
  generalize c / 2 ^ min s 32 = q at hl e ⊢
  rw [e, Int.tmod_eq_emod_of_nonneg (by omega), u32_and1 (by omega) (by omega)]
  omega
theorem bit_is (c n : Nat) (hc : c < 4294967296) (h1 : 1 ≤ n) : c / 2 ^ min (4 * n - 1) 32 % 2 = 0 ∨ c / 2 ^ min (4 * n - 1) 32 % 2 = 1 ∧ bitC c (4 * n - 1) = true := by
  by_cases h : 4 * n - 1 < 32
  · rcases Nat.mod_two_eq_zero_or_one (c / 2 ^ min (4 * n - 1) 32) with e | e
    · exact .inl e
    · refine .inr ⟨e, ?_⟩
      unfold bitC
      rw [Nat.mod_eq_of_lt h]
      rw [Nat.min_eq_left (by omega)] at e
      exact decide_eq_true e
  · left
    rw [Nat.min_eq_right (by omega), Nat.div_eq_of_lt (by omega)]
theorem cut_call (toks : List S46) (m bit mb : Nat) (hm : toks.length = m) (hmb : m - 1 - bit = mb) (h : tagsF (toks.take (toks.length - 1 - bit)) 0 = some ([], 0, 16)) (w : World) (Av : Option Addr) (cv : Nat) (hC : Kd.C k46 w Av toks.length toks) (hcv : m ≤ cv) :
    Calls Tryd.prog 11 #[.slice Av mb cv, .int .i64 0] w fun e w' => ∃ (A4 : Option Addr) (c4 : Nat), e = .returned (.tuple #[.slice A4 0 c4, .int .i64 0, .int .i64 16]) ∧ Below w.heap.size w w' := by
  rw [hm, hmb] at h
  have hx : (toks.take mb).length = mb := by rw [List.length_take]; omega
  have h3 := Kd.C_take hC (m := mb) (by omega)
  have hh := Tags_calls Av cv (toks.take mb) 0 [] 0 16 w h3 (by rw [hx]; omega) h
  rw [hx] at hh
  refine hh.mono ?_
  rintro e w' ⟨v, rfl, hr, hb1⟩
  obtain ⟨A4, c4, rfl⟩ := Kd.R_slice hr
  exact ⟨_, _, rfl, hb1⟩
theorem mb_walk (m bit mb : Nat) (h : m - 1 - bit = mb) (hm : 4 ≤ m) (hm2 : m ≤ 1000) (hb : bit < 2) : wrap64 (wrap64 ((m : Int) - 1) - (bit : Int)) = (mb : Int) := by
  rw [IntWalk.wrap64_in ((m : Int) - 1) (by omega), IntWalk.wrap64_in _ (by omega)]; omega
theorem sw_walk (n s : Nat) (h : 4 * n - 1 = s) (h1 : 1 ≤ n) (h2 : n ≤ 24) : wrap64 (wrap64 (4 * (n : Int)) - 1) = (s : Int) := by
  rw [IntWalk.wrap64_in (4 * (n : Int)) (by omega), IntWalk.wrap64_in _ (by omega)]; omega
theorem bw_walk (bit : Nat) (h : bit < 2) : wrap64 (bit : Int) = (bit : Int) := IntWalk.wrap64_in _ (by omega)
theorem boxes2 (W : World) (c : Nat) (k : Int) (s : ByteArray) (z : Int) (W0 : World) (h : (W.alloc (.cells #[.int .u32 (c : Int)] 72)).alloc (.cells #[.int .i64 k, .string s, .int .i64 z] 46) = W0) :
    Below W.heap.size W W0 ∧ W0.heap.size = W.heap.size + 2 ∧ W0.heap[W.heap.size]? = some (.cells #[.int .u32 (c : Int)] 72 (0, 0)) ∧ W0.heap[W.heap.size + 1]? = some (.cells #[.int .i64 k, .string s, .int .i64 z] 46 (0, 0)) := by
  subst h
  refine ⟨((Below.refl _ _).alloc (Nat.le_refl _) _).alloc (by rw [World.size_alloc]; omega) _, by rw [World.size_alloc, World.size_alloc], blk_alloc (blk_new W _) _, ?_⟩
  have h := blk_new (W.alloc (.cells #[.int .u32 (c : Int)] 72)) (.cells #[.int .i64 k, .string s, .int .i64 z] 46)
  rw [World.size_alloc] at h
  exact h
theorem take_tag (l : List Int) (ts : List S56) (k : Nat) (h : (l.take 24).map tagOf = ts) (hk : k < (l.take 24).length) : ts.take (k + 1) = ts.take k ++ [tagOf (l.getD k 0)] := by
  have hl : k < l.length := by rw [List.length_take] at hk; omega
  rw [List.take_succ_eq_append_getElem (by rw [← h]; simpa using hk)]
  subst h
  congr 2
  rw [List.getElem_map, List.getElem_take, List.getD_eq_getElem?_getD, List.getElem?_eq_getElem hl]
  rfl
set_option maxHeartbeats 8000000 in
set_option maxRecDepth 100000 in
theorem MTags_calls (W : World) (A : Option Addr) (c0 : Nat) (l : List Int) (c : Nat) (bh : S46) (hC : Kd.C (Kd.int .u8) W A l.length l) (hc0 : l.length ≤ c0) (hl : ∀ x ∈ l, 0 ≤ x ∧ x ≤ 255) (hc : c < 4294967296) (hg : Laid W) :
    Calls Tryd.prog 8 #[.slice A l.length c0, .int .u32 (c : Int), .agg #[.int .i64 bh.f0, .string bh.f1, .int .i64 bh.f2]] W fun e w' => e = .returned (.bool true) ∧ Below W.heap.size W w' := by
  obtain ⟨n, hn⟩ : ∃ n, (l.take 24).length = n := ⟨_, rfl⟩
  have hn24 : n ≤ 24 := by rw [← hn, List.length_take]; omega
  have hnl : min (l.length : Int) 24 = (n : Int) := by rw [← hn, List.length_take]; omega
  have hnl2 : n ≤ l.length := by rw [← hn, List.length_take]; omega
  obtain ⟨ts, hts⟩ : ∃ ts, (l.take 24).map tagOf = ts := ⟨_, rfl⟩
  have HTS := Lib.hid hts
  have HTL := Lib.hid (show ts.length = n by rw [← hts, List.length_map, hn])
  have HC := Lib.hid hC
  have HL := Lib.hid hl
  have HG := Lib.hid hg
  have HN := Lib.hid hn
  clear hC hl hg hn hts
  go_enter Tryd.func8, Tryd.ntmps8
  go_upto_region 2 with (fail)
  rename_i K hK K2 hK2
  have HJ : ∀ (y2 y29 y30 y31 y32 y33 y34 y35 y36 y37 : Value) (kd : Int) (W0 : World), kd ≠ 5 → kd ≠ 10 → Hid (Below W.heap.size W W0 ∧ W0.heap.size = W.heap.size + 2 ∧ W0.heap[W.heap.size]? = some (.cells #[.int .u32 (c : Int)] 72 (0, 0)) ∧ W0.heap[W.heap.size + 1]? = some (.cells #[.int .i64 kd, .string bh.f1, .int .i64 bh.f2] 46 (0, 0))) →
      K { tmps := #[.slice A n c0, .int .u32 (c : Int), y2, undef, .pointer (some ⟨W.heap.size, 0, none⟩), .pointer (some ⟨W.heap.size + 1, 0, none⟩), .bool false, undef, undef, undef, undef, undef, undef, undef, undef, undef, undef, undef, undef, undef, undef, undef, undef, undef, .slice A l.length c0, .slice A l.length c0, .int .i64 (l.length : Int), .int .i64 (n : Int), .slice A n c0, y29, y30, y31, y32, y33, y34, y35, y36, y37, undef, undef, undef, undef, undef, undef, undef, undef, undef, undef, undef, undef, undef, undef, undef, undef, undef, undef, undef, undef, undef, undef, undef, undef, undef, undef, undef, undef, undef, undef, undef, undef, undef, undef, undef, undef, undef, undef, undef, undef, undef, undef, undef, undef, undef, undef, undef, undef, undef, undef, undef, undef, undef, undef, undef, undef, undef, undef, undef, undef, undef, undef, undef, undef, undef, undef, undef, undef, undef, undef, undef, undef, undef, undef, undef, undef, undef, undef, undef, undef, undef, undef, undef, undef, undef, undef, undef, undef, undef, undef, undef, undef, undef, undef, undef, undef, undef, undef, undef, undef, undef, undef, undef, undef, undef, undef, undef, undef, undef, undef, undef, undef, undef, undef, undef, undef], defers := [] } W0 := by
    intro y2 y29 y30 y31 y32 y33 y34 y35 y36 y37 kd W0 hk5 hk10 HW
    apply hK
    clear hK K2 hK2
    have HT := Lib.hid (show ∀ k, k < n → ts.take (k + 1) = ts.take k ++ [tagOf (l.getD k 0)] from fun k hk => take_tag l ts k HTS.out (by rw [HN.out]; exact hk))
    obtain ⟨g, hg⟩ : ∃ g, W.heap.size = g := ⟨_, rfl⟩
    obtain ⟨B, hB⟩ : ∃ B, W0.heap.size = B := ⟨_, rfl⟩
    have HB := Lib.hid hB
    have HGG := Lib.hid hg
    have HLT := Lib.hid (show g < B by have := HW.out.2.1; omega)
    go_upto_region 9 with (fail)
    have HS := Lib.hid (put_start g B W0 c HLT.out hB (hg ▸ HW.out.2.2.1))
    obtain ⟨W1, hW1⟩ : ∃ W1, ((W0.alloc (.cells #[.slice none 0 0] 23)).alloc (.cells #[.int .i64 0] 3)) = W1 := ⟨_, rfl⟩
    rw [hW1] at HS ⊢
    clear hW1 hB hg
    go_loopw [8, 41] (fun v i wr => ∃ k : Nat, k ≤ n ∧ i = .int .i64 k ∧ Hid (PutI B g B (B + 1) g #[.int .u32 (c : Int)] 72 c (4 * k) v (tagRow (bitC c) 0 (ts.take k)) (ts.take k) W0 wr)) (fun _ i _ => n - (Go.RowKit.intOf i).toNat)
    case atStart => exact ⟨0, Nat.zero_le _, rfl, Lib.hid ⟨_, HS.out⟩⟩
    case round =>
      clear HS
      obtain ⟨k, hk, rfl, HP⟩ := hrel
      by_cases hlt : k < n
      · obtain ⟨vt, hv⟩ := HP.out
        have hbw : Below W.heap.size W wr := HW.out.1.trans (hv.bl.mono (by have := HLT.out; have := HGG.out; omega))
        have HBW := Lib.hid hbw
        have HV := Lib.hid hv
        obtain ⟨ad, cc, rfl, hcl, hK, hcell⟩ := Kd.C_get (Kd.C_below HC.out hbw) 0 (k : Int) (by omega) (by omega)
        obtain rfl : cc = [.int .u8 (l.getD k 0)] := hK
        have hx : wr.cell? (ad.add k) = some (.int .u8 (l.getD k 0)) := by
          have h := hcell 0 _ rfl
          rw [Int.toNat_natCast] at h
          simpa [Kd.int, Kd.scalar] using h
        have hmem : l.getD k 0 ∈ l := by
          rw [List.getD_eq_getElem?_getD, List.getElem?_eq_getElem (by omega)]
          exact List.getElem_mem _
        have HXR := Lib.hid (HL.out _ hmem)
        have HTK := Lib.hid (HT.out k hlt)
        obtain ⟨x, hxe⟩ : ∃ x, l.getD k 0 = x := ⟨_, rfl⟩
        rw [hxe] at hx HXR HTK
        clear hcell hmem hcl hxe hbw hv HP
        have HNM := Lib.hid (nm_call x HXR.out).1
        have hsz := (nm_call x HXR.out).2
        have hx0 := HXR.out.1
        have hx1 := HXR.out.2
        go_upto_region 12 with (first
          | (go_at_call 14; (with_reducible refine (HNM.out _ (HG.out.below HBW.out)).mono ?_); rintro e w1 ⟨rfl, hb1⟩; have HB1 := Lib.hid hb1; clear hb1)
          | (go_at_call 33; (with_reducible refine (vl_call x HXR.out _).mono ?_); rintro e w2 ⟨rfl, hb2⟩; have HB2 := Lib.hid hb2; clear hb2))
        obtain ⟨nm, hnm⟩ : ∃ s, ((⟨#[78]⟩ : ByteArray) ++ nmOf x) = s := ⟨_, rfl⟩
        obtain ⟨vl, hvl⟩ : ∃ s, vlOf x = s := ⟨_, rfl⟩
        have HTG := Lib.hid (show tagOf x = ⟨nm, vl⟩ by unfold tagOf; rw [hnm, hvl])
        rw [hnm, hvl]
        clear hnm hvl HNM hsz hx0 hx1 hx
        have hln := tagRow_len (bitC c) (ts.take k) 0
        have hlt2 : (ts.take k).length = k := by rw [List.length_take, HTL.out]; omega
        rw [hlt2] at hln
        have HQ0 := Lib.hid ((HV.out.below HB1.out).below HB2.out |>.beside #[.string nm, .string vl] 56)
        have HLK := Lib.hid hlt2
        obtain ⟨toks, htoks⟩ : ∃ s, tagRow (bitC c) 0 (ts.take k) = s := ⟨_, rfl⟩
        obtain ⟨want, hwant⟩ : ∃ s, ts.take k = s := ⟨_, rfl⟩
        obtain ⟨bx, hbx⟩ : ∃ s, w2.heap.size = s := ⟨_, rfl⟩
        obtain ⟨w3, hw3⟩ : ∃ s, w2.alloc (.cells #[.string nm, .string vl] 56) = s := ⟨_, rfl⟩
        rw [htoks] at hln
        rw [htoks, hwant, hbx, hw3] at HQ0
        rw [hw3]
        have HQ1 := Lib.hid (show PutI B g B (B + 1) bx #[.string nm, .string vl] 56 c (4 * k) u8 toks want W0 w3 from ⟨_, HQ0.out⟩)
        have HTO := Lib.hid htoks
        have HWA := Lib.hid hwant
        have HBX := Lib.hid hbx
        have hk24 : 4 * k ≤ 96 := by omega
        have l1 := fun b t => cm_len b t
        clear htoks hwant hbx hw3 HQ0 HV HB1 HB2 HBW hlt2 
        have L1 := Lib.hid l1
        clear l1
        go_upto_region 13 with (first
          | (go_at_call 32; (with_reducible refine (put_any W0 _ B g B (B + 1) bx #[.string nm, .string vl] 56 c (4 * k) u8 toks want 5 ⟨#[91]⟩ HQ1.out (by omega) (by omega) hc).mono ?_); rintro e w4 ⟨rfl, hq⟩; have HQ2 := Lib.hid hq; clear hq))
        obtain ⟨v4, hv4⟩ := HQ2.out
        have c40 : w4.cell? ⟨w2.heap.size, 0, none⟩ = some (.string nm) := by rw [HBX.out]; exact (blk_cell hv4.hx 0).trans rfl
        clear hv4 HQ1
        have hl2 := put_len toks (bitC c (4 * k)) ⟨5, ⟨#[91]⟩, 0⟩ ⟨5, ⟨#[91]⟩, 0⟩
        obtain ⟨tk2, ht2⟩ : ∃ s, toks ++ (cm (bitC c (4 * k)) ⟨5, ⟨#[91]⟩, 0⟩ ++ [⟨5, ⟨#[91]⟩, 0⟩]) = s := ⟨_, rfl⟩
        rw [ht2] at hl2 HQ2
        have HT2 := Lib.hid ht2
        clear ht2
        go_upto_region 14 with (first
          | (go_at_call 32; (with_reducible refine (put_any W0 _ B g B (B + 1) bx #[.string nm, .string vl] 56 c (4 * k + 1) u8 tk2 want 2 nm HQ2.out (by omega) (by omega) hc).mono ?_); rintro e w5 ⟨rfl, hq⟩; have HQ3 := Lib.hid hq; clear hq))
        obtain ⟨v5, hv5⟩ := HQ3.out
        have c51 : w5.cell? ⟨w2.heap.size, 1, none⟩ = some (.string vl) := by rw [HBX.out]; exact (blk_cell hv5.hx 1).trans rfl
        clear hv5 HQ2 c40
        have hl3 := put_len tk2 (bitC c (4 * k + 1)) ⟨2, nm, 0⟩ ⟨2, nm, 0⟩
        obtain ⟨tk3, ht3⟩ : ∃ s, tk2 ++ (cm (bitC c (4 * k + 1)) ⟨2, nm, 0⟩ ++ [⟨2, nm, 0⟩]) = s := ⟨_, rfl⟩
        rw [ht3] at hl3 HQ3
        have HT3 := Lib.hid ht3
        clear ht3
        go_upto_region 15 with (first
          | (go_at_call 32; (with_reducible refine (put_any W0 _ B g B (B + 1) bx #[.string nm, .string vl] 56 c (4 * k + 1 + 1) u8 tk3 want 1 vl HQ3.out (by omega) (by omega) hc).mono ?_); rintro e w6 ⟨rfl, hq⟩; have HQ4 := Lib.hid hq; clear hq))
        obtain ⟨v6, hv6⟩ := HQ4.out
        clear hv6 HQ3 c51
        have hl4 := put_len tk3 (bitC c (4 * k + 1 + 1)) ⟨1, vl, 0⟩ ⟨1, vl, 0⟩
        obtain ⟨tk4, ht4⟩ : ∃ s, tk3 ++ (cm (bitC c (4 * k + 1 + 1)) ⟨1, vl, 0⟩ ++ [⟨1, vl, 0⟩]) = s := ⟨_, rfl⟩
        rw [ht4] at hl4 HQ4
        have HT4 := Lib.hid ht4
        clear ht4
        go_upto_region 16 with (first
          | (go_at_call 32; (with_reducible refine (put_any W0 _ B g B (B + 1) bx #[.string nm, .string vl] 56 c (4 * k + 1 + 1 + 1) u8 tk4 want 6 ⟨#[93]⟩ HQ4.out (by omega) (by omega) hc).mono ?_); rintro e w7 ⟨rfl, hq⟩; have HQ5 := Lib.hid hq; clear hq))
        obtain ⟨v7, hv7⟩ := HQ5.out
        have c70 : w7.cell? ⟨w2.heap.size, 0, none⟩ = some (.string nm) := by rw [HBX.out]; exact (blk_cell hv7.hx 0).trans rfl
        have c71 : w7.cell? ⟨w2.heap.size, 1, none⟩ = some (.string vl) := by rw [HBX.out]; exact (blk_cell hv7.hx 1).trans rfl
        have HV7 := Lib.hid hv7
        clear hv7 HQ5 HQ4
        obtain ⟨Aw, cw, ew⟩ := Kd.R_slice HV7.out.rw_
        obtain ⟨nw, hnw⟩ : ∃ s, want.length = s := ⟨_, rfl⟩
        have hnw2 : nw = k := by rw [← hnw, ← HWA.out, HLK.out]
        rw [hnw] at ew
        subst ew
        have HNW := Lib.hid hnw
        clear hnw
        go_upto_region 17 with (first
          | (at_builtin
             refine Kd.R_append k56 (w0 := W0) B rfl (.tmp 66) (.tmp 68) 31 56 (.agg #[.string ⟨#[]⟩, .string ⟨#[]⟩]) 32 rfl Tryd.underlying31 gi56 rfl (by decide) (by omega) (.slice Aw nw cw) want ⟨nm, vl⟩ [.string nm, .string vl] (fun k_ => (k_ ≠ B ∧ k_ ≠ B + 1 ∧ k_ ≠ bx) ∧ some k_ ≠ v7.ownBlock) (fun _ => False) rfl (by first | (go_simp; done) | (go_simp; rfl)) (k56_mkM _ _ _ ⟨nm, vl⟩) (fun _ hk => hk.elim) ?cF ?cO ?cB ?cS ?cL ?_
             case cF => exact fun k_ hk_ => HV7.out.freshW k_ hk_
             case cO => exact HV7.out.rw_
             case cB => exact HV7.out.bl
             case cS => exact HV7.out.size
             case cL => have := HNW.out; omega
             intro v8 w8 ho8 hb8 hg8 hat8
             have HV8 := Lib.hid (HV7.out.wapp ho8 hb8 hg8 hat8).back
             clear ho8 hb8 hg8 hat8 c70 c71))
        go_wp2
        go_roundw
        case rel =>
          have e1 : ts.take (k + 1) = want ++ [⟨nm, vl⟩] := by rw [HTK.out, HWA.out, HTG.out]
          have e2 := row_next (bitC c) want k (by rw [← HWA.out, HLK.out]) ⟨nm, vl⟩
          rw [show tagRow (bitC c) 0 want = toks by rw [← HTO.out, HWA.out]] at e2
          refine ⟨k + 1, by omega, by go_num, Lib.hid ?_⟩
          rw [e1, e2]
          have h8 := HV8.out
          rw [← HT4.out, ← HT3.out, ← HT2.out] at h8
          exact ⟨_, h8⟩
        case measure => simp [Go.RowKit.intOf]; omega
      · have hkn : k = n := by omega
        rw [hkn] at HP
        obtain ⟨vt, hv⟩ := HP.out
        rw [List.take_of_length_le (show ts.length ≤ n by rw [HTL.out]; exact Nat.le_refl _)] at hv
        have HTW := Lib.hid (show ∀ rest : List S46, stops rest → rest.length ≤ 1000 → tagsF (tagRow (bitC c) 0 ts ++ rest) 0 = some (ts, ((tagRow (bitC c) 0 ts).length : Int), 0) from fun rest h1 h2 => tagsF_row _ ts rest h1 (by rw [HTL.out]; exact hn24) h2)
        have HTC := Lib.hid (show ts ≠ [] → ∀ bit : Nat, (bit = 0 ∨ bit = 1 ∧ bitC c (4 * ts.length - 1) = true) → tagsF ((tagRow (bitC c) 0 ts).take ((tagRow (bitC c) 0 ts).length - 1 - bit)) 0 = some ([], 0, 16) from fun h1 bit h2 => tagsF_cut _ ts h1 (by rw [HTL.out]; exact hn24) bit h2)
        have hm1 := tagRow_len (bitC c) ts 0
        have hm2 := row_ge (bitC c) ts 0
        rw [HTL.out] at hm1 hm2
        obtain ⟨toks, htoks⟩ : ∃ s, tagRow (bitC c) 0 ts = s := ⟨_, rfl⟩
        rw [htoks] at hv HTW HTC hm1 hm2
        obtain ⟨m, hm⟩ : ∃ m, toks.length = m := ⟨_, rfl⟩
        obtain ⟨Av, cv, ev⟩ := Kd.R_slice hv.rt
        obtain ⟨Aw, cw, ew⟩ := Kd.R_slice hv.rw_
        rw [hm] at ev
        rw [HTL.out] at ew
        subst ev
        subst ew
        rw [hm] at hm1 hm2
        have HV := Lib.hid hv
        have HM := Lib.hid hm
        have c7 : wr.cell? ⟨B, 0, none⟩ = some (.slice Av m cv) := (blk_cell hv.h7 0).trans rfl
        have HP5 := Lib.hid (show wr.heap[g + 1]? = some (.cells #[.int .i64 kd, .string bh.f1, .int .i64 bh.f2] 46 (0, 0)) from (hv.bl.block _ (by have := HW.out.2.1; have := HB.out; have := HGG.out; omega)).trans (by have h := HW.out.2.2.2; rw [HGG.out] at h; exact h))
        have HR1 := Lib.hid (show Kd.C k46 wr Av m toks ∧ m ≤ cv by have h := Kd.R_reads' hv.rt; rw [hm] at h; exact ⟨h.2.2, h.2.1⟩)
        have HR1cv := HR1.out.2
        have HR2 := Lib.hid (show Kd.C k56 wr Aw n ts ∧ n ≤ cw by have h := Kd.R_reads' hv.rw_; rw [HTL.out] at h; exact ⟨h.2.2, h.2.1⟩)
        clear hv HP htoks hm HT hk
        have HQA := Lib.hid (show Calls Tryd.prog 11 #[.slice Av m cv, .int .i64 0] wr fun e w' => ∃ (A1 : Option Addr) (c1 : Nat), e = .returned (.tuple #[.slice A1 n c1, .int .i64 (m : Int), .int .i64 0]) ∧ Kd.R k56 56 w' wr.heap.size (fun _ => True) (.slice A1 n c1) ts ∧ Below wr.heap.size wr w' from by
          have h := HTW.out [] (fun _ _ h => by cases h) (by simp)
          rw [List.append_nil, HM.out] at h
          have hh := Tags_calls Av cv toks 0 ts m 0 wr (by rw [HM.out]; exact HR1.out.1) (by rw [HM.out]; exact HR1.out.2) h
          rw [HM.out] at hh
          refine hh.mono ?_
          rintro e w' ⟨v, rfl, hr, hb1⟩
          obtain ⟨A1, c1, rfl⟩ := Kd.R_slice hr
          rw [HTL.out] at hr ⊢
          exact ⟨_, _, rfl, hr, hb1⟩)
        have hlt2 : decide (k < n) = false := decide_eq_false hlt
        go_upto_region 19 with (first
          | (go_at_call 11; (with_reducible refine HQA.out.mono ?_); rintro e w1 ⟨A1, c1, rfl, hr1, hb1⟩; have HO1 := Lib.hid hr1; have HB1 := Lib.hid hb1; clear hr1 hb1))
        have c71 : w1.cell? ⟨B, 0, none⟩ = some (.slice Av m cv) := (HB1.out.cell (World.block_lt_of_cell? wr _ c7)).trans c7
        have h5 : w1.heap[g + 1]? = some (.cells #[.int .i64 kd, .string bh.f1, .int .i64 bh.f2] 46 (0, 0)) := blk_below HP5.out HB1.out
        have c50 : w1.cell? ⟨g + 1, 0, none⟩ = some (.int .i64 kd) := (blk_cell h5 0).trans rfl
        have c51 : w1.cell? ⟨g + 1, 1, none⟩ = some (.string bh.f1) := (blk_cell h5 1).trans rfl
        have c52 : w1.cell? ⟨g + 1, 2, none⟩ = some (.int .i64 bh.f2) := (blk_cell h5 2).trans rfl
        clear h5 c7 HQA
        have HT2 := Lib.hid (show tagsF (toks ++ [(⟨kd, bh.f1, bh.f2⟩ : S46), ⟨5, ⟨#[]⟩, 0⟩]) 0 = some (ts, (m : Int), 0) from by
          have h := HTW.out [(⟨kd, bh.f1, bh.f2⟩ : S46), ⟨5, ⟨#[]⟩, 0⟩] (fun t s e => by injection e with e1 e2; subst e1; exact ⟨hk5, hk10⟩) (by simp)
          rw [HM.out] at h
          exact h)
        go_upto_region 20 with (fail)
        go_upto_region 21 with (first
          | (at_builtin
             refine append_two rfl (.tmp 80) (.tmp 83) rfl B _ (.slice Av m cv) toks ⟨kd, bh.f1, bh.f2⟩ ⟨5, ⟨#[]⟩, 0⟩ w1 (by first | (go_simp; done) | (go_simp; rfl)) (by first | (go_simp; done) | (go_simp; rfl)) (Kd.R_below HV.out.rt HB1.out) (by rw [HM.out]; omega) ?_
             intro A2 c2 w2 Av' cv' ev' hcv' hC2 hc2 hCv hg2
             rw [HM.out] at ev'
             injection ev' with e1 e2 e3
             subst e1 e3
             obtain ⟨m2, hm2⟩ : ∃ s, (toks ++ [(⟨kd, bh.f1, bh.f2⟩ : S46), ⟨5, ⟨#[]⟩, 0⟩]).length = s := ⟨_, rfl⟩
             have HAA := Lib.hid (after_append HV.out HB1.out HO1.out hg2)
             have HQB := Lib.hid (Tags_calls A2 c2 _ 0 ts m 0 w2 hC2 hc2 HT2.out)
             rw [hm2] at HQB ⊢
             have HCV := Lib.hid hCv
             have c72 : w2.cell? ⟨B, 0, none⟩ = some (.slice Av m cv) := (blk_cell HAA.out.2.1 0).trans rfl
             clear hC2 hc2 hCv hg2 hcv' hm2 c71 c50 c51 c52)
          | (go_at_call 11; (with_reducible refine HQB.out.mono ?_); rintro e w3 ⟨v3, rfl, hr3, hb3⟩; have HO3 := Lib.hid hr3; have HB3 := Lib.hid hb3; clear hr3 hb3))
        obtain ⟨A3, c3, e3⟩ := Kd.R_slice HO3.out
        rw [HTL.out] at e3
        subst e3
        have HBW3 := Lib.hid (show Below W.heap.size W w3 from (HW.out.1.trans (HAA.out.1.mono (by have := HLT.out; have := HGG.out; omega))).trans (HB3.out.mono (by have h1 := HAA.out.1.size; have := HLT.out; have := HGG.out; have := HB.out; have := blk_lt HAA.out.2.1; omega)))
        have HE1 := Lib.hid (show ∀ w, Below w3.heap.size w3 w → Calls Tryd.prog 21 #[.slice A1 n c1, .slice Aw n cw] w fun e w' => e = .returned (.bool true) ∧ Below w.heap.size w w' from fun w hb => by
          obtain ⟨a1, a2, a3⟩ := HAA.out.2.2.2.1 _ _ _ rfl
          obtain ⟨d1, d2, d3⟩ := HAA.out.2.2.2.2 _ _ _ rfl
          rw [HTL.out] at a3 d3
          exact eqG_call ts n HTL.out (by omega) w A1 Aw c1 cw (Kd.C_below (Kd.C_below a3 HB3.out) hb) a2 (Kd.C_below (Kd.C_below d3 HB3.out) hb) d2)
        have HE2 := Lib.hid (show ∀ w, Below w3.heap.size w3 w → Calls Tryd.prog 21 #[.slice A3 n c3, .slice Aw n cw] w fun e w' => e = .returned (.bool true) ∧ Below w.heap.size w w' from fun w hb => by
          obtain ⟨a1, a2, a3⟩ := Kd.R_reads' HO3.out
          obtain ⟨d1, d2, d3⟩ := HAA.out.2.2.2.2 _ _ _ rfl
          rw [HTL.out] at a3 d3
          exact eqG_call ts n HTL.out (by omega) w A3 Aw c3 cw (Kd.C_below a3 hb) a2 (Kd.C_below (Kd.C_below d3 HB3.out) hb) d2)
        have HB7 := Lib.hid (blk_below HAA.out.2.1 HB3.out)
        have HB4 := Lib.hid (blk_below HAA.out.2.2.1 HB3.out)
        have HCV3 := Lib.hid (Kd.C_below HCV.out HB3.out)
        clear HO3 HAA HQB HCV c72 HB3 HO1 HB1 HR1 HR2 HP5 HV
        go_upto_region 23 with (first
          | (go_at_call 21; (with_reducible refine (HE1.out _ (Below.refl _ _)).mono ?_); rintro e w4 ⟨rfl, hb4⟩; have HB40 := Lib.hid hb4; clear hb4)
          | (go_at_call 21; (with_reducible refine (HE2.out _ HB40.out).mono ?_); rintro e w5 ⟨rfl, hb5⟩; have HB5 := Lib.hid (HB40.out.trans (hb5.mono HB40.out.size)); clear hb5 HB40))
        have HBW5 := Lib.hid (HBW3.out.trans (HB5.out.mono HBW3.out.size))
        have c74 : w5.cell? ⟨B, 0, none⟩ = some (.slice Av m cv) := (blk_cell (blk_below HB7.out HB5.out) 0).trans rfl
        have c44 : w5.cell? ⟨g, 0, none⟩ = some (.int .u32 (c : Int)) := (blk_cell (blk_below HB4.out HB5.out) 0).trans rfl
        have HCV5 := Lib.hid (Kd.C_below HCV3.out HB5.out)
        clear HE1 HE2 HB7 HB4 HCV3 HBW3 HB5
        by_cases hn0 : n = 0
        · have hn1 : ((n : Int) == 0) = true := beq_iff_eq.2 (by omega)
          go_wp2_with (first
            | (go_at_call 15; (with_reducible refine (works_calls _ (HG.out.below HBW5.out)).mono ?_); rintro e w6 ⟨rfl, hb6⟩; have HB6 := Lib.hid hb6; clear hb6))
          go_ret
          exact ⟨rfl, HBW5.out.trans (HB6.out.mono HBW5.out.size)⟩
        · have hn1 : ((n : Int) == 0) = false := beq_eq_false_iff_ne.2 (by omega)
          go_upto_region 25 with (fail)
          have HBW6 := Lib.hid (show Below W.heap.size W w5.drew from below_drew1 HBW5.out)
          have HCV6 := Lib.hid (show Kd.C k46 w5.drew Av toks.length toks from Kd.C_drew HCV5.out)
          have h1n : 1 ≤ n := Nat.one_le_iff_ne_zero.2 hn0
          have hm4 : 4 ≤ m := by omega
          have hm5 : m ≤ 1000 := by omega
          obtain ⟨s, hs⟩ : ∃ s, 4 * n - 1 = s := ⟨_, rfl⟩
          obtain ⟨mb, hmb'⟩ : ∃ f : Nat → Nat, ∀ b, m - 1 - b = f b := ⟨_, fun _ => rfl⟩
          obtain ⟨bit, hbit⟩ : ∃ b, c / 2 ^ min s 32 % 2 = b := ⟨_, rfl⟩
          have hbb := bit_is c n hc h1n
          rw [hs, hbit] at hbb
          have hbit1 : bit < 2 := hbb.elim (fun e => by rw [e]; decide) (fun e => by rw [e.1]; decide)
          have HQC := Lib.hid (cut_call toks m bit (mb bit) HM.out (hmb' bit) (HTC.out (fun e => by have := HTL.out; rw [e] at this; exact hn0 this.symm) bit (by rw [HTL.out, hs]; exact hbb)) w5.drew Av cv HCV6.out HR1cv)
          have hmn := mb_walk m bit (mb bit) (hmb' bit) hm4 hm5 hbit1
          have hmc : (mb bit : Int) ≤ (cv : Int) := by have h := hmb' bit; have := HR1cv; clear hbit hbb hmn hs hm1 hm2; omega
          have hwb := bw_walk bit hbit1
          have hsw := sw_walk n s hs h1n hn24
          have hbt : bits BinOp.and IntKind.u32 (((c : Int) / 2 ^ min s 32).tmod 32) 1 = (bit : Int) := by rw [← hbit]; exact bit_cut c s hc
          generalize mb bit = mbb at hmn hmc HQC
          clear HBW5 HCV5 hs hbb hbit hmb'
          refine start_ (n := 22) (S := fun w' => w'.cell? ⟨B, 0, none⟩ = some (.slice Av m cv) ∧ w'.cell? ⟨g, 0, none⟩ = some (.int .u32 (c : Int))) (ds := [14]) #[false, false, false, false, false, false, false, false, false, false, false, false, false, false, false, false, false, false, false, false, false, false] (by kernel_rfl) rfl rfl ⟨c74, c44⟩ (fun hHeld => ?_)
          generalize w5.drew = w6 at HBW6 HCV6 HQC hHeld ⊢
          refine take_ (i := 0) (N := some 122) (v := ?_) (a' := ?_) #[true, false, false, false, false, false, false, false, false, false, false, false, false, false, false, false, false, false, false, false, false, false] rfl rfl (by kernel_rfl) (fun _ _ _ h => h) (Or.inl ⟨by rfl, ?_⟩) hHeld ?_ ?_
          rotate_left
          · rintro w' ⟨s0, s1⟩
            go_simp
            with_reducible rfl
          rotate_left
          · simp only [Act.put, List.setIfInBounds_toArray, List.set_cons_zero, List.set_cons_succ, i64_w, i32_w]
            rfl
          refine pure_ (i := 1) (N := some 123) (v := ?_) (a' := ?_) #[true, true, false, false, false, false, false, false, false, false, false, false, false, false, false, false, false, false, false, false, false, false] rfl rfl (by kernel_rfl) (fun _ _ _ h => h) (Or.inl ⟨by rfl, ?_⟩) ?_ ?_
          rotate_left
          · intro w'
            go_simp
            with_reducible rfl
          rotate_left
          · simp only [Act.put, List.setIfInBounds_toArray, List.set_cons_zero, List.set_cons_succ, i64_w, i32_w]
            rfl
          refine pure_ (i := 2) (N := some 124) (v := ?_) (a' := ?_) #[true, true, true, false, false, false, false, false, false, false, false, false, false, false, false, false, false, false, false, false, false, false] rfl rfl (by kernel_rfl) (fun _ _ _ h => h) (Or.inl ⟨by rfl, ?_⟩) ?_ ?_
          rotate_left
          · intro w'
            go_simp
            with_reducible rfl
          rotate_left
          · simp only [Act.put, List.setIfInBounds_toArray, List.set_cons_zero, List.set_cons_succ, i64_w, i32_w]
            rfl
          refine take_ (i := 3) (N := some 125) (v := ?_) (a' := ?_) #[true, true, true, true, false, false, false, false, false, false, false, false, false, false, false, false, false, false, false, false, false, false] rfl rfl (by kernel_rfl) (fun _ _ _ h => h) (Or.inl ⟨by rfl, ?_⟩) hHeld ?_ ?_
          rotate_left
          · rintro w' ⟨s0, s1⟩
            go_simp
            with_reducible rfl
          rotate_left
          · simp only [Act.put, List.setIfInBounds_toArray, List.set_cons_zero, List.set_cons_succ, i64_w, i32_w]
            rfl
          refine pure_ (i := 4) (N := some 126) (v := ?_) (a' := ?_) #[true, true, true, true, true, false, false, false, false, false, false, false, false, false, false, false, false, false, false, false, false, false] rfl rfl (by kernel_rfl) (fun _ _ _ h => h) (Or.inl ⟨by rfl, ?_⟩) ?_ ?_
          rotate_left
          · intro w'
            go_simp
            with_reducible rfl
          rotate_left
          · simp only [Act.put, List.setIfInBounds_toArray, List.set_cons_zero, List.set_cons_succ, i64_w, i32_w]
            rfl
          refine pure_ (i := 5) (N := some 127) (v := ?_) (a' := ?_) #[true, true, true, true, true, true, false, false, false, false, false, false, false, false, false, false, false, false, false, false, false, false] rfl rfl (by kernel_rfl) (fun _ _ _ h => h) (Or.inl ⟨by rfl, ?_⟩) ?_ ?_
          rotate_left
          · intro w'
            go_simp
            with_reducible rfl
          rotate_left
          · simp only [Act.put, List.setIfInBounds_toArray, List.set_cons_zero, List.set_cons_succ, i64_w, i32_w]
            rfl
          refine pure_ (i := 6) (N := some 128) (v := ?_) (a' := ?_) #[true, true, true, true, true, true, true, false, false, false, false, false, false, false, false, false, false, false, false, false, false, false] rfl rfl (by kernel_rfl) (fun _ _ _ h => h) (Or.inl ⟨by rfl, ?_⟩) ?_ ?_
          rotate_left
          · intro w'
            go_simp
            with_reducible rfl
          rotate_left
          · simp only [Act.put, List.setIfInBounds_toArray, List.set_cons_zero, List.set_cons_succ, i64_w, i32_w]
            rfl
          refine pure_ (i := 7) (N := some 129) (v := ?_) (a' := ?_) #[true, true, true, true, true, true, true, true, false, false, false, false, false, false, false, false, false, false, false, false, false, false] rfl rfl (by kernel_rfl) (fun _ _ _ h => h) (Or.inl ⟨by rfl, ?_⟩) ?_ ?_
          rotate_left
          · intro w'
            go_simp
            with_reducible rfl
          rotate_left
          · simp only [Act.put, List.setIfInBounds_toArray, List.set_cons_zero, List.set_cons_succ, i64_w, i32_w]
            rfl
          refine pure_ (i := 8) (N := some 130) (v := ?_) (a' := ?_) #[true, true, true, true, true, true, true, true, true, false, false, false, false, false, false, false, false, false, false, false, false, false] rfl rfl (by kernel_rfl) (fun _ _ _ h => h) (Or.inl ⟨by rfl, ?_⟩) ?_ ?_
          rotate_left
          · intro w'
            go_simp
            with_reducible rfl
          rotate_left
          · simp only [Act.put, List.setIfInBounds_toArray, List.set_cons_zero, List.set_cons_succ, i64_w, i32_w]
            rfl
          refine pure_ (i := 9) (N := some 131) (v := ?_) (a' := ?_) #[true, true, true, true, true, true, true, true, true, true, false, false, false, false, false, false, false, false, false, false, false, false] rfl rfl (by kernel_rfl) (fun _ _ _ h => h) (Or.inl ⟨by rfl, ?_⟩) ?_ ?_
          rotate_left
          · intro w'
            go_simp
            with_reducible rfl
          rotate_left
          · simp only [Act.put, List.setIfInBounds_toArray, List.set_cons_zero, List.set_cons_succ, i64_w, i32_w]
            rfl
          refine pure_ (i := 10) (N := some 132) (v := ?_) (a' := ?_) #[true, true, true, true, true, true, true, true, true, true, true, false, false, false, false, false, false, false, false, false, false, false] rfl rfl (by kernel_rfl) (fun _ _ _ h => h) (Or.inl ⟨by rfl, ?_⟩) ?_ ?_
          rotate_left
          · intro w'
            go_simp
            with_reducible rfl
          rotate_left
          · simp only [Act.put, List.setIfInBounds_toArray, List.set_cons_zero, List.set_cons_succ, i64_w, i32_w]
            rfl
          refine pure_ (i := 11) (N := some 133) (v := ?_) (a' := ?_) #[true, true, true, true, true, true, true, true, true, true, true, true, false, false, false, false, false, false, false, false, false, false] rfl rfl (by kernel_rfl) (fun _ _ _ h => h) (Or.inl ⟨by rfl, ?_⟩) ?_ ?_
          rotate_left
          · intro w'
            go_simp
            with_reducible rfl
          rotate_left
          · simp only [Act.put, List.setIfInBounds_toArray, List.set_cons_zero, List.set_cons_succ, i64_w, i32_w]
            rfl
          refine pure_ (i := 12) (N := some 134) (v := ?_) (a' := ?_) #[true, true, true, true, true, true, true, true, true, true, true, true, true, false, false, false, false, false, false, false, false, false] rfl rfl (by kernel_rfl) (fun _ _ _ h => h) (Or.inl ⟨by rfl, ?_⟩) ?_ ?_
          rotate_left
          · intro w'
            go_simp
            with_reducible rfl
          rotate_left
          · simp only [Act.put, List.setIfInBounds_toArray, List.set_cons_zero, List.set_cons_succ, i64_w, i32_w]
            rfl
          refine pure_ (i := 13) (N := some 135) (v := ?_) (a' := ?_) #[true, true, true, true, true, true, true, true, true, true, true, true, true, true, false, false, false, false, false, false, false, false] rfl rfl (by kernel_rfl) (fun _ _ _ h => h) (Or.inl ⟨by rfl, ?_⟩) ?_ ?_
          rotate_left
          · intro w'
            go_simp
            with_reducible rfl
          rotate_left
          · simp only [Act.put, List.setIfInBounds_toArray, List.set_cons_zero, List.set_cons_succ, i64_w, i32_w]
            rfl
          refine last_ (i := 14) (N := some 136) #[true, true, true, true, true, true, true, true, true, true, true, true, true, true, true, false, false, false, false, false, false, false] rfl rfl (by kernel_rfl) (by decide) (fun K hK => ?_)
          refine goes_ Tryd.func11 (by kernel_rfl) rfl #[.slice Av mbb cv, .int .i64 0] (by rfl) rfl rfl (by first | (simp only [List.map_toArray, List.map_cons, List.map_nil]; done) | (simp only [List.map_toArray, List.map_cons, List.map_nil]; rfl)) ?_
          with_reducible refine HQC.out.mono ?_
          rintro e w7 ⟨A4, c4, rfl, hb7⟩
          refine ⟨_, rfl, ?_⟩
          have HB7 := Lib.hid hb7
          clear hb7
          refine hK.out _ _ ?_
          clear hK K
          refine norm_ (a' := ?_) ?_ ?_
          rotate_left
          · show Act.put _ (some 136) _ = _
            simp only [Act.put, List.setIfInBounds_toArray, List.set_cons_zero, List.set_cons_succ, i64_w, i32_w]
            rfl
          refine pure_ (i := 15) (N := some 121) (v := ?_) (a' := ?_) #[true, true, true, true, true, true, true, true, true, true, true, true, true, true, true, true, false, false, false, false, false, false] rfl rfl (by kernel_rfl) (fun _ _ _ h => h) (Or.inl ⟨by rfl, ?_⟩) ?_ ?_
          rotate_left
          · intro w'
            go_simp
            with_reducible rfl
          rotate_left
          · simp only [Act.put, List.setIfInBounds_toArray, List.set_cons_zero, List.set_cons_succ, i64_w, i32_w]
            rfl
          refine pure_ (i := 16) (N := some 137) (v := ?_) (a' := ?_) #[true, true, true, true, true, true, true, true, true, true, true, true, true, true, true, true, true, false, false, false, false, false] rfl rfl (by kernel_rfl) (fun _ _ _ h => h) (Or.inl ⟨by rfl, ?_⟩) ?_ ?_
          rotate_left
          · intro w'
            go_simp
            with_reducible rfl
          rotate_left
          · simp only [Act.put, List.setIfInBounds_toArray, List.set_cons_zero, List.set_cons_succ, i64_w, i32_w]
            rfl
          refine pure_ (i := 17) (N := some 138) (v := ?_) (a' := ?_) #[true, true, true, true, true, true, true, true, true, true, true, true, true, true, true, true, true, true, false, false, false, false] rfl rfl (by kernel_rfl) (fun _ _ _ h => h) (Or.inl ⟨by rfl, ?_⟩) ?_ ?_
          rotate_left
          · intro w'
            go_simp
            with_reducible rfl
          rotate_left
          · simp only [Act.put, List.setIfInBounds_toArray, List.set_cons_zero, List.set_cons_succ, i64_w, i32_w]
            rfl
          refine pure_ (i := 18) (N := some 139) (v := ?_) (a' := ?_) #[true, true, true, true, true, true, true, true, true, true, true, true, true, true, true, true, true, true, true, false, false, false] rfl rfl (by kernel_rfl) (fun _ _ _ h => h) (Or.inl ⟨by rfl, ?_⟩) ?_ ?_
          rotate_left
          · intro w'
            go_simp
            with_reducible rfl
          rotate_left
          · simp only [Act.put, List.setIfInBounds_toArray, List.set_cons_zero, List.set_cons_succ, i64_w, i32_w]
            rfl
          refine pure_ (i := 19) (N := some 21) (v := ?_) (a' := ?_) #[true, true, true, true, true, true, true, true, true, true, true, true, true, true, true, true, true, true, true, true, false, false] rfl rfl (by kernel_rfl) (fun _ _ _ h => h) (Or.inl ⟨by rfl, ?_⟩) ?_ ?_
          rotate_left
          · intro w'
            go_simp
            with_reducible rfl
          rotate_left
          · simp only [Act.put, List.setIfInBounds_toArray, List.set_cons_zero, List.set_cons_succ, i64_w, i32_w]
            rfl
          refine pure_ (i := 20) (N := some 22) (v := ?_) (a' := ?_) #[true, true, true, true, true, true, true, true, true, true, true, true, true, true, true, true, true, true, true, true, true, false] rfl rfl (by kernel_rfl) (fun _ _ _ h => h) (Or.inl ⟨by rfl, ?_⟩) ?_ ?_
          rotate_left
          · intro w'
            go_simp
            with_reducible rfl
          rotate_left
          · simp only [Act.put, List.setIfInBounds_toArray, List.set_cons_zero, List.set_cons_succ, i64_w, i32_w]
            rfl
          refine pure_ (i := 21) (N := some 23) (v := ?_) (a' := ?_) #[true, true, true, true, true, true, true, true, true, true, true, true, true, true, true, true, true, true, true, true, true, true] rfl rfl (by kernel_rfl) (fun _ _ _ h => h) (Or.inl ⟨by rfl, ?_⟩) ?_ ?_
          rotate_left
          · intro w'
            go_simp
            with_reducible rfl
          rotate_left
          · simp only [Act.put, List.setIfInBounds_toArray, List.set_cons_zero, List.set_cons_succ, i64_w, i32_w]
            rfl
          refine done_ (by kernel_rfl) ?_
          have HBW7 := Lib.hid (HBW6.out.trans (HB7.out.mono HBW6.out.size))
          clear HBW6 HCV6 HB7 hHeld
          go_wp2_with (first
            | (go_at_call 15; (with_reducible refine (works_calls _ (HG.out.below HBW7.out)).mono ?_); rintro e w8 ⟨rfl, hb8⟩; have HB8 := Lib.hid hb8; clear hb8))
          go_ret
          exact ⟨rfl, HBW7.out.trans (HB8.out.mono HBW7.out.size)⟩
  clear hK
  go_wp2
  all_goals first
    | exact HJ _ _ _ _ _ _ _ _ _ _ 2 _ (by decide) (by decide) (Lib.hid (boxes2 W c 2 bh.f1 bh.f2 _ rfl))
    | (rename_i h1 h2; refine HJ _ _ _ _ _ _ _ _ _ _ bh.f0 _ h1 (beq_eq_false_iff_ne.1 h2.2) (Lib.hid (boxes2 W c bh.f0 bh.f1 bh.f2 _ rfl)))
end Go.Proofs.YtlpoglkddknedaaDoor.G

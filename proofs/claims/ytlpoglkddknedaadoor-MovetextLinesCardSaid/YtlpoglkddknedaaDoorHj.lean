/- MovetextLines walked: it answers true. Conditions: the list's bytes and the width are a byte's, the variables hold what their initialisers lay. -/
import Derived.Test.YtlpoglkddknedaaDoorHx
import Derived.Lib.Strings
namespace Go.Proofs.YtlpoglkddknedaaDoor.Y
open Go.RowKit Go.Lib Go.Proofs.YtlpoglkddknedaaDoor.T Go.Proofs.YtlpoglkddknedaaDoor.H Go.Proofs.YtlpoglkddknedaaDoorW.PrintWords Go.Proofs.YtlpoglkddknedaaDoorW.PrintLast
set_option linter.unusedVariables false
set_option linter.unusedSimpArgs false
theorem yi9 : (Tryd.prog.info? 9).map (fun i => (i.zero, i.size, i.bytes)) = some (some (.string ⟨#[]⟩), 1, 16) := by kernel_rfl
theorem g_asc : Tryd.prog.globalNamed "strings.asciiSpace" = some 1 := by kernel_rfl
/-- The letter of a number, and the word. -/
def lt (x : Int) : UInt8 := UInt8.ofNat (97 + x % 26).toNat
def wdL (x : Int) : List UInt8 := repeatL [lt x] (1 + x % 30).toNat
theorem lt_range (x : Int) : 97 ≤ (lt x).toNat ∧ (lt x).toNat ≤ 122 := by
  have h1 : 97 ≤ (97 + x % 26).toNat ∧ (97 + x % 26).toNat ≤ 122 := by omega
  unfold lt
  rw [UInt8.toNat_ofNat']
  omega
theorem lt_not (b : UInt8) (h : 97 ≤ b.toNat ∧ b.toNat ≤ 122) : isSp b = false ∧ blankB b = false := by
  have key : ∀ c : UInt8, c.toNat < 97 → (b == c) = false := fun c hc => beq_eq_false_iff_ne.2 (fun e => by subst e; omega)
  unfold isSp blankB
  rw [key 9 (by decide), key 10 (by decide), key 11 (by decide), key 12 (by decide), key 13 (by decide), key 32 (by decide)]
  exact ⟨rfl, rfl⟩
theorem wdL_mem (x : Int) : ∀ b ∈ wdL x, 97 ≤ b.toNat ∧ b.toNat ≤ 122 := by
  have h : ∀ n : Nat, ∀ b ∈ repeatL [lt x] n, b = lt x := by
    intro n
    induction n with
    | zero => intro b hb; simp [repeatL] at hb
    | succ n ih =>
      intro b hb
      rw [repeatL] at hb
      rcases List.mem_append.1 hb with hb | hb
      · simpa using hb
      · exact ih b hb
  intro b hb
  rw [h _ b hb]
  exact lt_range x
theorem wdL_len (x : Int) : 1 ≤ (wdL x).length ∧ (wdL x).length ≤ 30 := by
  unfold wdL
  rw [repeatL_length]
  simp only [List.length_cons, List.length_nil]
  omega
/-- A word of small letters. -/
def good (w : List UInt8) : Prop := 1 ≤ w.length ∧ w.length ≤ 30 ∧ ∀ b ∈ w, 97 ≤ b.toNat ∧ b.toNat ≤ 122
theorem good_wd (x : Int) : good (wdL x) := ⟨(wdL_len x).1, (wdL_len x).2, wdL_mem x⟩
theorem good_word {w : List UInt8} (h : good w) : word w := ⟨fun e => by have := h.1; rw [e] at this; simp at this, fun b hb => (lt_not b (h.2.2 b hb)).1⟩
theorem good_no {w : List UInt8} (h : good w) {c : UInt8} (hc : c.toNat < 97) : c ∉ w := fun e => by have := (h.2.2 c e).1; omega
theorem good_blank {w : List UInt8} (h : good w) : (mk w).size ≠ 0 ∧ blankF (mk w) = false := by
  refine ⟨by rw [mk_size]; have := h.1; omega, ?_⟩
  unfold blankF
  rw [List.any_eq_false]
  intro b hb
  rw [(lt_not b (h.2.2 b hb)).2]
  decide
theorem good_cost : ∀ l : List (List UInt8), (∀ w ∈ l, good w) → cost (l.map mk) ≤ 31 * l.length ∧ sumL l ≤ 31 * l.length
  | [], _ => by simp [cost, sumL]
  | w :: l, h => by
    have ih := good_cost l (fun x hx => h x (by simp [hx]))
    have h1 := (h w (by simp)).2.1
    simp only [List.map_cons, cost, sumL, List.sum_cons, List.length_cons, mk_size] at ih ⊢
    omega
theorem joinC_mem (c : UInt8) : ∀ (ps : List (List UInt8)) (b : UInt8), b ∈ joinC c ps → b = c ∨ ∃ p ∈ ps, b ∈ p
  | [], b, h => by simp [joinC] at h
  | [p], b, h => .inr ⟨p, by simp, h⟩
  | p :: q :: r, b, h => by
    rw [joinC_cons c p (by simp)] at h
    rcases List.mem_append.1 h with h | h
    · exact .inr ⟨p, by simp, h⟩
    · rcases List.mem_cons.1 h with h | h
      · exact .inl h
      · rcases joinC_mem c (q :: r) b h with h | ⟨p2, h1, h2⟩
        · exact .inl h
        · exact .inr ⟨p2, List.mem_cons_of_mem _ h1, h2⟩
/-- What the text of good words is. -/
theorem text_of (a : List UInt8) (l : List (List UInt8)) (width : Int) (h1 : 1 ≤ width) (h2 : width ≤ 255) (hg : ∀ w ∈ a :: l, good w) (hn : (a :: l).length ≤ 60) :
    ∃ G : List (List (List UInt8)), G ≠ [] ∧ G.flatten = a :: l ∧ (∀ g ∈ G, g ≠ [] ∧ ∀ w ∈ g, good w) ∧ (∀ g ∈ G, 1 < g.length → ((joinC 32 g).length : Int) ≤ width) ∧
      (∀ (i : Nat) x y, G[i]? = some x → G[i + 1]? = some y → ∃ b t, y = b :: t ∧ width < ((joinC 32 x).length : Int) + 1 + b.length) ∧
      wrapG ((a :: l).map mk) width = some (mk (joinC 10 (G.map (joinC 32)) ++ [10]), 0) ∧ sumL G.flatten ≤ 1860 ∧
      fields (joinC 10 (G.map (joinC 32)) ++ [10]) = a :: l ∧ ∀ b ∈ joinC 10 (G.map (joinC 32)) ++ [10], b.toNat < 128 := by
  have hc := good_cost (a :: l) hg
  have hne := grp_ne width l [a] (by simp)
  have hfl := grp_flat width l [a]
  have hgg : ∀ g ∈ grp width l [a], g ≠ [] ∧ ∀ w ∈ g, good w := fun g h => ⟨hne g h, fun w hw => hg w (by have : w ∈ (grp width l [a]).flatten := List.mem_flatten.2 ⟨g, h, hw⟩; rw [hfl] at this; exact this)⟩
  refine ⟨grp width l [a], grp_nonnil width l [a], hfl, hgg, grp_fits width l [a] (by simp) (fun e => by simp at e), grp_next width l [a], ?_, by rw [hfl]; have := hc.2; show sumL (a :: l) ≤ 1860; omega, ?_, ?_⟩
  · have h := wrapG_lines (mk a) (l.map mk) width h1 h2 (by have := hc.1; show cost ((a :: l).map mk) ≤ 1000000; omega) (fun x hx => by
      have : x ∈ (a :: l).map mk := hx
      obtain ⟨w, hw, rfl⟩ := List.mem_map.1 this
      exact good_blank (hg w hw))
    rw [List.map_map] at h
    have e : (l.map ((fun x : ByteArray => x.data.toList) ∘ mk)) = l := by
      conv => rhs; rw [← List.map_id l]
      exact List.map_congr_left (fun x _ => rfl)
    rw [e] at h
    exact h
  · rw [fields_lines _ (fun g h => ⟨(hgg g h).1, fun w hw => good_word ((hgg g h).2 w hw)⟩) (grp_nonnil width l [a]), hfl]
    rfl
  · intro b hb
    rcases List.mem_append.1 hb with hb | hb
    · rcases joinC_mem 10 _ b hb with rfl | ⟨p, hp, hb⟩
      · decide
      · obtain ⟨g, hg1, rfl⟩ := List.mem_map.1 hp
        rcases joinC_mem 32 _ b hb with rfl | ⟨w, hw, hb⟩
        · decide
        · have := ((hgg g hg1).2 w hw).2.2 b hb; omega
    · rw [List.mem_singleton.1 hb]; decide
theorem take_ws (l : List Int) (ws : List ByteArray) (k : Nat) (h : (l.take 60).map (fun x => mk (wdL x)) = ws) (hk : k < (l.take 60).length) : ws.take (k + 1) = ws.take k ++ [mk (wdL (l.getD k 0))] := by
  have hl : k < l.length := by rw [List.length_take] at hk; omega
  rw [List.take_succ_eq_append_getElem (by rw [← h]; simpa using hk)]
  subst h
  congr 2
  rw [List.getElem_map, List.getElem_take, List.getD_eq_getElem?_getD, List.getElem?_eq_getElem hl]
  rfl
theorem conv_one (w : World) (x : Int) (h : 0 ≤ x ∧ x ≤ 255) : (convert 64 9 (.slice (some ⟨w.heap.size, 0, none⟩) 1 1)).run Tryd.prog (w.alloc (.cells #[.int .u8 (97 + x % 26)] 5)) = .ok (.string (mk [lt x])) (w.alloc (.cells #[.int .u8 (97 + x % 26)] 5)) := by
  refine run_convert_bytes_back _ 64 9 5 ⟨w.heap.size, 0, none⟩ 1 [lt x] Tryd.underlying64 Tryd.underlying5 Tryd.underlying9 ?_
  intro j hj
  have hj0 : j = 0 := by simpa using hj
  subst hj0
  rw [Addr.add_zero', show (⟨w.heap.size, 0, none⟩ : Addr) = ⟨w.heap.size, 0, none⟩ from rfl, World.cell?_alloc_new]
  have e : 97 + x % 26 = ((lt x).toNat : Int) := by
    unfold lt
    rw [UInt8.toNat_ofNat']
    omega
  show some (Value.int .u8 (97 + x % 26)) = some (Value.int .u8 ((lt x).toNat : Int))
  rw [e]
theorem rep_word (x : Int) (h : 0 ≤ x ∧ x ≤ 255) (w : World) : Calls Tryd.prog 33 #[.string (mk [lt x]), .int .i64 (1 + x % 30)] w fun e w' => e = .returned (.string (mk (wdL x))) ∧ Below w.heap.size w w' := by
  have e : 1 + x % 30 = (((1 + x % 30).toNat : Nat) : Int) := by omega
  have hh := Tryd.strings_Repeat (mk [lt x]) (1 + x % 30).toNat w (by omega) (by show 1 * _ ≤ _; omega)
  rw [← e] at hh
  exact hh
/-- The text, and what is known of it. -/
theorem lines_of (ws : List ByteArray) (n : Nat) (hn : ws.length = n) (hn60 : n ≤ 60) (hg : ∀ w ∈ ws, good w.data.toList) (width : Int) (h1 : 1 ≤ width) (h2 : width ≤ 255) :
    ∃ s : ByteArray, wrapG ws width = some (s, 0) ∧ fields s.data.toList = ws.map (fun x => x.data.toList) ∧ s.size < 1000000 ∧ (∀ b ∈ s.data.toList, b.toNat < 128) ∧ (n = 0 → s = ⟨#[]⟩) ∧
      (n ≠ 0 → ∃ G : List (List (List UInt8)), s = mk (joinC 10 (G.map (joinC 32) ++ [[]])) ∧ G ≠ [] ∧ (∀ g ∈ G, g ≠ [] ∧ ∀ w ∈ g, good w) ∧ (∀ g ∈ G, 1 < g.length → ((joinC 32 g).length : Int) ≤ width) ∧
        (∀ (i : Nat) x y, G[i]? = some x → G[i + 1]? = some y → ∃ b t, y = b :: t ∧ width < ((joinC 32 x).length : Int) + 1 + b.length) ∧ sumL G.flatten ≤ 1860) := by
  cases ws with
  | nil =>
    refine ⟨⟨#[]⟩, ?_, rfl, by decide, fun b hb => by simp at hb, fun _ => rfl, fun h => absurd hn.symm (by simpa using h)⟩
    unfold wrapG
    rw [if_neg (by omega), if_pos (by decide)]
    rfl
  | cons w ws =>
    have e : ((w.data.toList :: ws.map (fun x => x.data.toList)).map mk) = w :: ws := by
      rw [List.map_cons, mk_data, List.map_map]
      congr 1
      conv => rhs; rw [← List.map_id ws]
      exact List.map_congr_left (fun x _ => mk_data x)
    obtain ⟨G, a1, a2, a3, a4, a5, a6, a7, a8, a9⟩ := text_of w.data.toList (ws.map (fun x => x.data.toList)) width h1 h2 (fun x hx => by
      rcases List.mem_cons.1 hx with rfl | hx
      · exact hg w (by simp)
      · obtain ⟨z, hz, rfl⟩ := List.mem_map.1 hx
        exact hg z (List.mem_cons_of_mem _ hz)) (by simp only [List.length_cons, List.length_map] at hn ⊢; omega)
    rw [e] at a6
    have hlen : (joinC 10 (G.map (joinC 32)) ++ [10]).length ≤ 1860 := by
      have h3 := joinC_len 10 (G.map (joinC 32)) (by simpa using a1)
      rw [sumL_lines G (fun g hg => (a3 g hg).1)] at h3
      rw [List.length_append, List.length_cons, List.length_nil]
      omega
    refine ⟨_, a6, by rw [data_mk, a8]; rfl, by rw [mk_size]; omega, fun b hb => a9 b hb, fun h => by simp at hn; omega, fun _ => ⟨G, ?_, a1, a3, a4, a5, a7⟩⟩
    rw [joinC_snoc 10 [] (by simpa using a1)]
theorem cell_line (ps : List (List UInt8)) (b : Nat) (w : World) (h : w.heap[b]? = some (.cells ((ps.map mk).map Value.string).toArray 9 (0, 0))) (j : Nat) (p : List UInt8) (hj : ps[j]? = some p) : w.cell? ⟨b, j, none⟩ = some (.string (mk p)) := by
  rw [blk_cell h j]
  simp [hj]
theorem no_line (G : List (List (List UInt8))) (h : ∀ g ∈ G, g ≠ [] ∧ ∀ w ∈ g, good w) : ∀ p ∈ G.map (joinC 32) ++ [[]], (10 : UInt8) ∉ p := by
  intro p hp
  rcases List.mem_append.1 hp with hp | hp
  · obtain ⟨g, hg, rfl⟩ := List.mem_map.1 hp
    intro hb
    rcases joinC_mem 32 _ _ hb with e | ⟨w, hw, hb⟩
    · cases e
    · exact good_no ((h g hg).2 w hw) (by decide) hb
  · rw [List.mem_singleton.1 hp]; simp
theorem toList_ne {s : ByteArray} (h : s.size ≠ 0) : ¬ s.toList = [] ∧ s.toList.isEmpty = false := by
  have h1 : ¬ s.toList = [] := fun e => by
    rw [toList_data] at e
    have h2 : s.size = s.data.toList.length := by simp
    rw [e] at h2
    exact h h2
  refine ⟨h1, ?_⟩
  cases e : s.toList with
  | nil => exact absurd e h1
  | cons a l => rfl
theorem line_facts (G : List (List (List UInt8))) (h3 : ∀ g ∈ G, g ≠ [] ∧ ∀ w ∈ g, good w) (h6 : sumL G.flatten ≤ 1860) (j : Nat) (g : List (List UInt8)) (hj : G[j]? = some g) :
    g ≠ [] ∧ (∀ w ∈ g, w ≠ [] ∧ (32 : UInt8) ∉ w) ∧ (mk (joinC 32 g)).size < 1000000 ∧ (mk (joinC 32 g)).size ≠ 0 ∧ g.length ≤ 2000 := by
  have hm := List.mem_of_getElem? hj
  obtain ⟨h1, h2⟩ := h3 g hm
  have h4 := joinC_len 32 g h1
  have h5 := sumL_mem G g hm
  refine ⟨h1, fun w hw => ⟨fun e => by have := (h2 w hw).1; rw [e] at this; simp at this, good_no (h2 w hw) (by decide)⟩, by rw [mk_size]; omega, ?_, ?_⟩
  · rw [mk_size]
    have : g.length ≤ sumL g ∧ (∀ w ∈ g, 1 ≤ w.length) := ⟨by
      clear h1 h2 h4 h5 hj hm
      induction g with
      | nil => simp
      | cons w g ih => simp only [sumL, List.map_cons, List.sum_cons, List.length_cons] at ih ⊢; omega, fun w hw => (h2 w hw).1⟩
    cases g with
    | nil => exact absurd rfl h1
    | cons w g =>
      have hw := this.2 w (by simp)
      simp only [sumL, List.map_cons, List.sum_cons] at h4
      omega
  · have : ∀ g : List (List UInt8), g.length ≤ sumL g := by
      intro g
      induction g with
      | nil => simp
      | cons w g ih => simp only [sumL, List.map_cons, List.sum_cons, List.length_cons] at ih ⊢; omega
    have := this g
    omega
theorem wrap_call (ws : List ByteArray) (n : Nat) (hn : ws.length = n) (width : Int) (s : ByteArray) (h : wrapG ws width = some (s, 0)) (w : World) (A : Option Addr) (c : Nat) (hC : Kd.C Kd.string w A n ws) (hc : n ≤ c) (hg : Laid w) :
    Calls Tryd.prog 12 #[.slice A n c, .int .i64 width] w fun e w' => e = .returned (.tuple #[.string s, .int .i64 0]) ∧ Below w.heap.size w w' := by
  subst hn
  exact WrapG_calls A c ws width s 0 w hC hc h hg
set_option maxHeartbeats 8000000 in
set_option maxRecDepth 100000 in
theorem Lines_calls (W : World) (A : Option Addr) (c0 : Nat) (l : List Int) (y : Int) (mm : Int) (hC : Kd.C (Kd.int .u8) W A l.length l) (hc0 : l.length ≤ c0) (hl : ∀ x ∈ l, 0 ≤ x ∧ x ≤ 255) (hy0 : 0 ≤ y) (hy1 : y ≤ 255) (hg : Laid W)
    (hmx : W.cell? ⟨3, 0, none⟩ = some (.int .i64 mm)) (hasc : Lib.TabIs Tryd.prog W "strings.asciiSpace" .u8 Lib.asciiSpaceTab) :
    Calls Tryd.prog 9 #[.slice A l.length c0, .int .u8 y] W fun e w' => e = .returned (.bool true) ∧ Below W.heap.size W w' := by
  obtain ⟨n, hn⟩ : ∃ n, (l.take 60).length = n := ⟨_, rfl⟩
  have hn60 : n ≤ 60 := by rw [← hn, List.length_take]; omega
  have hnl : min (l.length : Int) 60 = (n : Int) := by rw [← hn, List.length_take]; omega
  have hnl2 : n ≤ l.length := by rw [← hn, List.length_take]; omega
  obtain ⟨ws, hws⟩ : ∃ ws, (l.take 60).map (fun x => mk (wdL x)) = ws := ⟨_, rfl⟩
  have HWS := Lib.hid hws
  have HWL := Lib.hid (show ws.length = n by rw [← hws, List.length_map, hn])
  have HT := Lib.hid (show ∀ k, k < n → ws.take (k + 1) = ws.take k ++ [mk (wdL (l.getD k 0))] from fun k hk => take_ws l ws k hws (by rw [hn]; exact hk))
  have HC := Lib.hid hC
  have HL := Lib.hid hl
  have HG := Lib.hid hg
  have HMX := Lib.hid (show ∀ w, Below W.heap.size W w → w.cell? ⟨3, 0, none⟩ = some (.int .i64 mm) from fun w hb => (hb.cell (World.block_lt_of_cell? W _ hmx)).trans hmx)
  have HAS := Lib.hid (show ∀ w, Below W.heap.size W w → Lib.TabIs Tryd.prog w "strings.asciiSpace" .u8 Lib.asciiSpaceTab from fun w hb => var?_below hb g_asc (var_lt g_asc hasc) hasc)
  clear hC hl hg hn hws hmx hasc
  go_enter Tryd.func9, Tryd.ntmps9
  go_upto_region 3 with (fail)
  go_loopw [5, 24] (fun v i wr => ∃ k : Nat, k ≤ n ∧ i = .int .i64 k ∧ Hid (Kd.R Kd.string 9 wr W.heap.size (fun _ => True) v (ws.take k) ∧ Below W.heap.size W wr)) (fun _ i _ => n - (Go.RowKit.intOf i).toNat)
  case atStart => exact ⟨0, Nat.zero_le _, rfl, Lib.hid ⟨Kd.R_nil _ _ _ _ _, Below.refl _ _⟩⟩
  case round =>
    obtain ⟨k, hk, rfl, HP⟩ := hrel
    by_cases hlt : k < n
    · obtain ⟨ad, cc, rfl, hcl, hK, hcell⟩ := Kd.C_get (Kd.C_below HC.out HP.out.2) 0 (k : Int) (by omega) (by omega)
      obtain rfl : cc = [.int .u8 (l.getD k 0)] := hK
      have hx : wr.cell? (ad.add k) = some (.int .u8 (l.getD k 0)) := by
        have h := hcell 0 _ rfl
        rw [Int.toNat_natCast] at h
        simpa [Kd.int, Kd.scalar] using h
      have hmem : l.getD k 0 ∈ l := by
        rw [List.getD_eq_getElem?_getD, List.getElem?_eq_getElem (by omega)]
        exact List.getElem_mem _
      have HXR := Lib.hid (HL.out _ hmem)
      have HTK := Lib.hid (HT.out k hlt)
      obtain ⟨x, hxe⟩ : ∃ x, l.getD k 0 = x := ⟨_, rfl⟩
      rw [hxe] at hx HXR HTK
      clear hcell hmem hcl hxe
      have hx0 := HXR.out.1
      have hx1 := HXR.out.2
      have hcv := conv_one wr x HXR.out
      obtain ⟨Av, cv, ev⟩ := Kd.R_slice HP.out.1
      have hk2 : (ws.take k).length = k := by rw [List.length_take, HWL.out]; omega
      rw [hk2] at ev
      subst ev
      have HK2 := Lib.hid hk2
      clear hk2
      go_upto_region 6 with (first
        | (go_at_call 33; (with_reducible refine (rep_word x HXR.out _).mono ?_); rintro e w1 ⟨rfl, hb1⟩; have HB1 := Lib.hid (((Below.refl wr.heap.size wr).alloc (Nat.le_refl _) _).trans (hb1.mono (by rw [World.size_alloc]; omega))); clear hb1)
        | (at_builtin
           refine Kd.R_append Kd.string (w0 := W) W.heap.size rfl (.tmp 28) (.tmp 39) 25 9 (.string ⟨#[]⟩) 16 rfl Tryd.underlying25 yi9 rfl (by decide) (by omega) (.slice Av k cv) (ws.take k) (mk (wdL x)) [.string (mk (wdL x))] (fun _ => True) (fun _ => False) rfl (by first | (go_simp; done) | (go_simp; rfl)) ?cP (fun _ hk => hk.elim) ?cF ?cO ?cB ?cS ?cL ?_
           case cP => exact rfl
           case cF => exact fun _ _ => trivial
           case cO => exact Kd.R_below HP.out.1 HB1.out
           case cB => exact HP.out.2.trans (HB1.out.mono HP.out.2.size)
           case cS => exact Nat.le_trans HP.out.2.size HB1.out.size
           case cL => have := HK2.out; omega
           intro v2 w2 ho2 hb2 hg2 hat2
           have HR2 := Lib.hid (show Kd.R Kd.string 9 w2 W.heap.size (fun _ => True) v2 (ws.take k ++ [mk (wdL x)]) ∧ Below W.heap.size W w2 from ⟨ho2, hb2⟩)
           clear ho2 hb2 hg2 hat2))
      go_wp2
      go_roundw
      case rel => exact ⟨k + 1, by omega, by go_num, Lib.hid (by rw [HTK.out]; exact HR2.out)⟩
      case measure => simp [Go.RowKit.intOf]; omega
    · have hkn : k = n := by omega
      rw [hkn] at HP
      have hP := HP.out
      rw [List.take_of_length_le (show ws.length ≤ n by rw [HWL.out]; exact Nat.le_refl _)] at hP
      obtain ⟨Av, cv, ev⟩ := Kd.R_slice hP.1
      rw [HWL.out] at ev
      subst ev
      have HR := Lib.hid (show Kd.C Kd.string wr Av n ws ∧ n ≤ cv by have h := Kd.R_reads' hP.1; rw [HWL.out] at h; exact ⟨h.2.2, h.2.1⟩)
      have HB := Lib.hid hP.2
      have HGOOD := Lib.hid (show ∀ w ∈ ws, good w.data.toList from fun w hw => by
        rw [← HWS.out] at hw
        obtain ⟨x, _, rfl⟩ := List.mem_map.1 hw
        exact good_wd x)
      have hlt2 : decide (k < n) = false := decide_eq_false hlt
      clear hP HP HT hkn hk hlt HC HL HWS
      obtain ⟨width, hwd⟩ : ∃ z, 1 + y % 90 = z := ⟨_, rfl⟩
      have hw1 : 1 ≤ width := by omega
      have hw2 : width ≤ 255 := by omega
      obtain ⟨s, b1, b2, b3, b4, b5, b6⟩ := lines_of ws n HWL.out hn60 HGOOD.out width hw1 hw2
      have HWC := Lib.hid (wrap_call ws n HWL.out width s b1 wr Av cv HR.out.1 HR.out.2 (HG.out.below HB.out))
      have HF := Lib.hid (fun w hb => fields_call s ws n HWL.out (by omega) b2 b3 b4 w (HAS.out w (HB.out.trans (Below.mono hb HB.out.size))) : ∀ w, Below wr.heap.size wr w → Calls Tryd.prog 34 #[.string s] w fun e w' => ∃ A1, e = .returned (.slice A1 n n) ∧ Kd.C Kd.string w' A1 n ws ∧ Below w.heap.size w w')
      have HB5 := Lib.hid b5
      have HB6 := Lib.hid b6
      have HB3 := Lib.hid b3
      clear b1 b2 b3 b4 b5 b6 HAS
      go_upto_region 8 with (fail)
      clear hy0 hy1 hwd
      go_upto_region 9 with (first
        | (go_at_call 12; (with_reducible refine HWC.out.mono ?_); rintro e w1 ⟨rfl, hb1⟩; have HB1 := Lib.hid hb1; clear hb1))
      go_upto_region 11 with (first
        | (go_at_call 34; go_loud ((with_reducible refine (HF.out _ HB1.out).mono ?_); rintro e w2 ⟨A2, rfl, hc2, hb2⟩; have HB2 := Lib.hid (HB1.out.trans (hb2.mono HB1.out.size)); have HE := Lib.hid (eqS_call ws n HWL.out (by omega) w2 A2 Av n cv hc2 (Nat.le_refl _) (Kd.C_below HR.out.1 HB2.out) HR.out.2); clear hb2 hc2))
        | (go_at_call 20; (with_reducible refine HE.out.mono ?_); rintro e w3 ⟨rfl, hb3⟩; have HB30 := Lib.hid (HB2.out.trans (hb3.mono HB2.out.size)); clear hb3))
      have HBW := Lib.hid (HB.out.trans (HB30.out.mono HB.out.size))
      clear HWC HF HB1 HE HB2 HB30 HB
      by_cases hn0 : n = 0
      · have hs := HB5.out hn0
        subst hs
        have hn1 : ((n : Int) == 0) = true := beq_iff_eq.2 (by omega)
        go_wp2_with (first
          | (go_at_call 15; (with_reducible refine (works_calls _ (HG.out.below HBW.out)).mono ?_); rintro e w4 ⟨rfl, hb4⟩; have HB4 := Lib.hid hb4; clear hb4))
        go_ret
        exact ⟨rfl, HBW.out.trans (HB4.out.mono HBW.out.size)⟩
      · have hn1 : ((n : Int) == 0) = false := beq_eq_false_iff_ne.2 (by omega)
        go_upto_region 13 with (fail)
        obtain ⟨G, g1, g2, g3, g4, g5, g6⟩ := HB6.out hn0
        obtain ⟨M, hM⟩ : ∃ M, G.length = M := ⟨_, rfl⟩
        have hM0 : 1 ≤ M := by rw [← hM]; exact List.length_pos_iff.2 g2
        have hM9 : M ≤ 2000 := by
          have h := joinC_len 32
          have : ∀ G : List (List (List UInt8)), (∀ g ∈ G, g ≠ []) → G.length ≤ sumL G.flatten := by
            intro G
            induction G with
            | nil => intro _; simp
            | cons g G ih =>
              intro hh
              have h1 := ih (fun x hx => hh x (by simp [hx]))
              have h2 := joinC_len 32 g (hh g (by simp))
              rw [List.flatten_cons, sumL_app, List.length_cons]
              omega
          have := this G (fun g hg => (g3 g hg).1)
          omega
        have HSP := Lib.hid (split_call 10 (G.map (joinC 32) ++ [[]]) (by simp) (no_line G g3) (M + 1) (by rw [List.length_append, List.length_map, hM]; rfl) s g1 HB3.out w3 mm (HMX.out _ HBW.out))
        have HG3 := Lib.hid g3
        have HG4 := Lib.hid g4
        have HG5 := Lib.hid g5
        have HG6 := Lib.hid g6
        have HGM := Lib.hid hM
        clear g1 g2 g3 g4 g5 g6 hM HB5 HB6 HB3
        go_upto_region 14 with (first
          | (go_at_call 35; (with_reducible refine HSP.out.mono ?_); rintro e w4 ⟨rfl, hw4⟩; have HW4 := Lib.hid hw4; clear hw4))
        obtain ⟨b, hb⟩ : ∃ b, w3.heap.size = b := ⟨_, rfl⟩
        have HBL := Lib.hid (show w4.heap[b]? = some (.cells (((G.map (joinC 32) ++ [[]]).map mk).map Value.string).toArray 9 (0, 0)) from by rw [HW4.out, ← hb]; exact blk_new w3 _)
        have HBW4 := Lib.hid (show Below W.heap.size W w4 from by rw [HW4.out]; exact HBW.out.alloc HBW.out.size _)
        rw [hb]
        clear hb HSP HW4 HBW
        have hlast : w4.cell? ⟨b, M, none⟩ = some (.string ⟨#[]⟩) := cell_line _ b w4 HBL.out M [] (by rw [List.getElem?_append_right (by rw [List.length_map, HGM.out]; exact Nat.le_refl _), List.length_map, HGM.out, Nat.sub_self]; rfl)
        go_upto_region 16 with (fail)
        go_upto_region 18 with (fail)
        clear hlast
        go_loopw [4, 85] (fun v i wz => ∃ j : Nat, j ≤ M ∧ v = .bool false ∧ i = .int .i64 j ∧ Hid (Below w4.heap.size w4 wz)) (fun _ i _ => M - (Go.RowKit.intOf i).toNat)
        case atStart => exact ⟨0, Nat.zero_le _, rfl, rfl, Lib.hid (Below.refl _ _)⟩
        case round =>
          obtain ⟨j, hj, rfl, rfl, HQ⟩ := hrel
          have HBW5 := Lib.hid (HBW4.out.trans (HQ.out.mono HBW4.out.size))
          by_cases hjl : j < M
          · obtain ⟨g, hgj⟩ : ∃ g, G[j]? = some g := ⟨_, List.getElem?_eq_getElem (by rw [HGM.out]; exact hjl)⟩
            obtain ⟨f1, f2, f3, f4, f5⟩ := line_facts G HG3.out HG6.out j g hgj
            have f6 := HG4.out g (List.mem_of_getElem? hgj)
            have cl := (HQ.out.cell (World.block_lt_of_cell? w4 _ (cell_line _ b w4 HBL.out j (joinC 32 g) (by rw [List.getElem?_append_left (by rw [List.length_map, HGM.out]; exact hjl), List.getElem?_map, hgj]; rfl)))).trans (cell_line _ b w4 HBL.out j (joinC 32 g) (by rw [List.getElem?_append_left (by rw [List.length_map, HGM.out]; exact hjl), List.getElem?_map, hgj]; rfl))
            have HGJ := Lib.hid hgj
            obtain ⟨ln, hln⟩ : ∃ s, mk (joinC 32 g) = s := ⟨_, rfl⟩
            obtain ⟨q, hq⟩ : ∃ q, g.length = q := ⟨_, rfl⟩
            have hsz : ((joinC 32 g).length : Int) = (ln.size : Int) := by rw [← hln, mk_size]
            rw [hln] at f3 f4 cl
            rw [hsz, hq] at f6
            rw [hq] at f5
            have HS1 := Lib.hid (split_call 32 g f1 (fun p hp => (f2 p hp).2) q hq ln hln.symm f3 _ mm (HMX.out _ HBW5.out))
            have HS2 := Lib.hid (fun w m hm => contains_call 32 g f2 ln hln.symm f3 w m hm : ∀ (w : World) (m : Int), w.cell? ⟨3, 0, none⟩ = some (.int .i64 m) → Calls Tryd.prog 36 #[.string ln, .string ⟨#[32, 32]⟩] w fun e w' => e = .returned (.bool false) ∧ w' = w)
            have HS3 := Lib.hid (fun w => suffix_call 32 g f1 f2 ln hln.symm f3 w : ∀ w : World, Calls Tryd.prog 37 #[.string ln, .string ⟨#[32]⟩] w fun e w' => e = .returned (.bool false) ∧ w' = w)
            have HSZ := Lib.hid hsz
            have HF6 := Lib.hid f6
            have hln0 := (toList_ne f4).1
            have hln1 := (toList_ne f4).2
            clear f1 f2 f6 hgj hln hsz hq
            go_upto_region 21 with (first
              | (go_at_call 35; (with_reducible refine HS1.out.mono ?_); rintro e w5 ⟨rfl, hw5⟩; have HB5 := Lib.hid (hw5 ▸ (Below.refl _ _).alloc (Nat.le_refl _) _ : Below wr.heap.size wr w5); clear hw5))
            have HBW6 := Lib.hid (HBW5.out.trans (HB5.out.mono HBW5.out.size))
            have HQ6 := Lib.hid (HQ.out.trans (HB5.out.mono HQ.out.size))
            have hcase : (decide (width < (ln.size : Int)) = true ∧ decide ((1 : Int) < (q : Int)) = false) ∨ decide (width < (ln.size : Int)) = false := by
              by_cases h : width < (ln.size : Int)
              · exact .inl ⟨decide_eq_true h, decide_eq_false (fun e => by have := HF6.out (by omega); omega)⟩
              · exact .inr (decide_eq_false h)
            clear HS1 HQ HBW5 HB5 cl
            rcases hcase with ⟨d1, d2⟩ | d1
            all_goals
              go_upto_region 23 with (first
                | (go_at_call 36; (with_reducible refine (HS2.out _ mm (HMX.out _ HBW6.out)).mono ?_); rintro e w6 ⟨rfl, rfl⟩)
                | (go_at_call 37; (with_reducible refine (HS3.out _).mono ?_); rintro e w7 ⟨rfl, rfl⟩))
            all_goals
              by_cases hnx : j + 1 < M
              · obtain ⟨g2, hg2⟩ : ∃ g2, G[j + 1]? = some g2 := ⟨_, List.getElem?_eq_getElem (by rw [HGM.out]; exact hnx)⟩
                obtain ⟨fa, ft, rfl, fw⟩ := HG5.out j g g2 HGJ.out hg2
                obtain ⟨h1, h2, h3, h4, h5⟩ := line_facts G HG3.out HG6.out (j + 1) (fa :: ft) hg2
                have hcl : w4.cell? ⟨b, j + 1, none⟩ = some (.string (mk (joinC 32 (fa :: ft)))) := cell_line _ b w4 HBL.out (j + 1) (joinC 32 (fa :: ft)) (by rw [List.getElem?_append_left (by rw [List.length_map, HGM.out]; exact hnx), List.getElem?_map, hg2]; rfl)
                have cl2 := (HQ6.out.cell (World.block_lt_of_cell? w4 _ hcl)).trans hcl
                obtain ⟨l2, hl2⟩ : ∃ s, mk (joinC 32 (fa :: ft)) = s := ⟨_, rfl⟩
                obtain ⟨s1, hs1⟩ : ∃ s, mk fa = s := ⟨_, rfl⟩
                have hfs : (fa.length : Int) = (s1.size : Int) := by rw [← hs1, mk_size]
                rw [hl2] at cl2 h3
                rw [HSZ.out, hfs] at fw
                have HCUT := Lib.hid (cut_call 32 fa ft (h2 fa (by simp)).2 l2 hl2.symm h3 _ mm (HMX.out _ HBW6.out))
                rw [hs1] at HCUT
                have d3 : decide ((ln.size : Int) + 1 + (s1.size : Int) ≤ width) = false := decide_eq_false (by omega)
                have d4 : decide ((j : Int) + 1 < (M : Int)) = true := decide_eq_true (by omega)
                have hs1z : s1.size ≤ 30 := by rw [← hs1, mk_size]; exact ((HG3.out (fa :: ft) (List.mem_of_getElem? hg2)).2 fa (by simp)).2.1
                clear h1 h2 h4 h5 hcl hl2 hs1 hfs fw hg2 HS2 HS3
                go_upto_region 25 with (first
                  | (go_at_call 38; (with_reducible refine HCUT.out.mono ?_); rintro e w8 ⟨s2, bb, rfl, hb8⟩; have HQ8 := Lib.hid (HQ6.out.trans (hb8.mono HQ6.out.size)); clear hb8))
                go_wp2
                go_roundw
                case rel => exact ⟨j + 1, by omega, rfl, by go_num, Lib.hid HQ8.out⟩
                case measure => simp [Go.RowKit.intOf]; omega
              · have d4 : decide ((j : Int) + 1 < (M : Int)) = false := decide_eq_false (by omega)
                go_wp2
                go_roundw
                case rel => exact ⟨j + 1, by omega, rfl, by go_num, Lib.hid HQ6.out⟩
                case measure => simp [Go.RowKit.intOf]; omega
          · have hjm : decide (j < M) = false := decide_eq_false hjl
            go_wp2_with (first
              | (go_at_call 15; (with_reducible refine (works_calls _ (HG.out.below HBW5.out)).mono ?_); rintro e w9 ⟨rfl, hb9⟩; have HB9 := Lib.hid hb9; clear hb9))
            go_ret
            exact ⟨rfl, HBW5.out.trans (HB9.out.mono HBW5.out.size)⟩
end Go.Proofs.YtlpoglkddknedaaDoor.Y

/- Laws for a scope with several labels, in the walk's two forms (no program in sight): what holds at every jump to a label, and a measure that every pass from a label lowers. · The moves and the tags of a list of tokens, as plain functions: what the program's Parse and Tags answer. No program in sight, no condition. · variation: the place behind a variation, as varS tells it. Condition: the place is not negative. -/
import Derived.Scope
import Derived.CallsIn
import Derived.Test.YtlpoglkddknedaaDoorTx0
import Derived.WalkKit
import Derived.WalkSpells
import Derived.WalkLawsBesides
import Derived.WalkMore
import Derived.Lib.OthersKept
import Derived.Lib.Hide
namespace Go.Proofs.YtlpoglkddknedaaDoor.H
open Go
/-- As Q; by a goto to label l: J l. -/
def jumps (J : Nat → Act → World → Prop) (Q : Exit → Act → World → Prop) : Exit → Act → World → Prop
  | .goto l, a, w => J l a w
  | e, a, w => Q e a w
/-- What stands behind a label. -/
def seqTail : Code → Code
  | .seq _ r => r
  | c => c
def behind (c : Code) (l : Nat) : Code := seqTail ((findLabel c l).getD .skip)

section
variable {P : Program} {a : Act} {w : World} {Q : Exit → Act → World → Prop}
theorem wp_scope_labels {c : Code} (J : Nat → Act → World → Prop) (μ : Nat → Act → World → Nat)
    (hf : ∀ l a w, J l a w → findLabel c l = some (.seq .skip (behind c l)))
    (first : (∀ a w, J 0 a w → (behind c 0).wp P (jumps J Q) a w) → c.wp P (jumps J Q) a w)
    (pass : ∀ l a w, J l a w → (behind c l).wp P (jumps (fun l' a' w' => J l' a' w' ∧ μ l' a' w' < μ l a w) Q) a w) : (Code.scope c).wp P Q a w := by
  have hmono : ∀ {J' : Nat → Act → World → Prop} {e : Exit} {a : Act} {w : World}, (∀ l a w, J' l a w → J l a w) → jumps J' Q e a w → jumps J Q e a w := by
    intro J' e a w h hq
    cases e <;> first | exact h _ _ _ hq | exact hq
  have first' := first fun a w h => wp_mono (pass 0 a w h) fun e a' w' hq => hmono (fun _ _ _ x => x.1) hq
  intro b k cs
  have hg : ∀ l a w, J l a w → gotoIn l (.inScope c :: k) = some (.code (.seq .skip (behind c l)) :: .inScope c :: k) := fun l a w h => by simp [gotoIn, hf l a w h]
  have key : ∀ n l a w, μ l a w = n → J l a w → ∃ e a' w', Q e a' w' ∧ Arrives P (lone (b.at a (.code (.seq .skip (behind c l)) :: .inScope c :: k)) cs w) b k cs e a' w' := by
    intro n
    induction n using Nat.strongRecOn with
    | _ n ih =>
      intro l a w hn hJ
      have hp : (Code.seq .skip (behind c l)).wp P (jumps (fun l' a' w' => J l' a' w' ∧ μ l' a' w' < μ l a w) Q) a w := wp_seq (wp_skip (pass l a w hJ))
      obtain ⟨e, a₁, w₁, hq, harr⟩ := hp b (.inScope c :: k) cs
      cases e with
      | normal => exact ⟨.normal, a₁, w₁, hq, Steps.trans harr (.one step_inScope)⟩
      | exit id => exact ⟨.exit id, a₁, w₁, hq, fun k' hk => harr k' (by simp [exitTo, hk])⟩
      | goto l' =>
        obtain ⟨hJ', hlt⟩ := hq
        obtain ⟨e₂, a₂, w₂, hq₂, harr₂⟩ := ih _ (by omega) l' a₁ w₁ rfl hJ'
        exact ⟨e₂, a₂, w₂, hq₂, .of_steps (harr _ (hg l' a₁ w₁ hJ')) harr₂⟩
      | ret => exact ⟨_, a₁, w₁, hq, harr⟩
      | panic ch => exact ⟨_, a₁, w₁, hq, harr⟩
      | outgrown => exact ⟨_, a₁, w₁, hq, harr⟩
  obtain ⟨e, a₁, w₁, hq, harr⟩ := first' b (.inScope c :: k) cs
  cases e with
  | normal => exact ⟨.normal, a₁, w₁, hq, .head step_scope (Steps.trans harr (.one step_inScope))⟩
  | exit id => exact ⟨.exit id, a₁, w₁, hq, fun k' hk => .head step_scope (harr k' (by simp [exitTo, hk]))⟩
  | goto l' =>
    obtain ⟨e₂, a₂, w₂, hq₂, harr₂⟩ := key _ l' a₁ w₁ rfl hq
    exact ⟨e₂, a₂, w₂, hq₂, .of_steps (.head step_scope (harr _ (hg l' a₁ w₁ hq))) harr₂⟩
  | ret => exact ⟨_, a₁, w₁, hq, .of_steps (.one step_scope) harr⟩
  | panic ch => exact ⟨_, a₁, w₁, hq, .of_steps (.one step_scope) harr⟩
  | outgrown => exact ⟨_, a₁, w₁, hq, .of_steps (.one step_scope) harr⟩
end

section
variable {F : Fence} {n : Nat} {P : Program} {b : Frame} {a : Act} {k : List Item} {cs : List Frame} {w : World} {Q : Exit → Act → World → Prop}
theorem stepR_scope {c : Code} : step P (lone (b.atR a (.code (.scope c) :: k)) cs w) = .next (lone (b.atR a (.code c :: .inScope c :: k)) cs w) :=
  step_lone_go (by simp [stepG, stepG.exec, Frame.atR])
theorem stepR_inScope {c : Code} : step P (lone (b.atR a (.inScope c :: k)) cs w) = .next (lone (b.atR a k) cs w) :=
  step_lone_go (by simp [stepG, stepG.exec, Frame.atR])
theorem wpIn_scope_labels {c : Code} (J : Nat → Act → World → Prop) (μ : Nat → Act → World → Nat)
    (hf : ∀ l a w, J l a w → findLabel c l = some (.seq .skip (behind c l)))
    (first : (∀ a w, J 0 a w → (behind c 0).wpIn F n P (jumps J Q) a w) → c.wpIn F n P (jumps J Q) a w)
    (pass : ∀ l a w, J l a w → (behind c l).wpIn F n P (jumps (fun l' a' w' => J l' a' w' ∧ μ l' a' w' < μ l a w) Q) a w) : (Code.scope c).wpIn F n P Q a w := by
  have hmono : ∀ {J' : Nat → Act → World → Prop} {e : Exit} {a : Act} {w : World}, (∀ l a w, J' l a w → J l a w) → jumps J' Q e a w → jumps J Q e a w := by
    intro J' e a w h hq
    cases e <;> first | exact h _ _ _ hq | exact hq
  have first' := first fun a w h => wpIn_mono (pass 0 a w h) fun e a' w' hq => hmono (fun _ _ _ x => x.1) hq
  intro b k cs hro hb hr
  have hg : ∀ l a w, J l a w → gotoIn l (.inScope c :: k) = some (.code (.seq .skip (behind c l)) :: .inScope c :: k) := fun l a w h => by simp [gotoIn, hf l a w h]
  have hx : ∀ id, exitTo id (.inScope c :: k) = exitTo id k := fun id => by simp [exitTo]
  have key : ∀ m l a w, μ l a w = m → J l a w → ∃ e a' w', Q e a' w' ∧ ArrivesIn (Machine.fenced P F) P (lone (b.atR a (.code (.seq .skip (behind c l)) :: .inScope c :: k)) cs w) b k cs e a' w' := by
    intro m
    induction m using Nat.strongRecOn with
    | _ m ih =>
      intro l a w hn hJ
      have hp : (Code.seq .skip (behind c l)).wpIn F n P (jumps (fun l' a' w' => J l' a' w' ∧ μ l' a' w' < μ l a w) Q) a w := wpIn_seq (wpIn_skip (pass l a w hJ))
      obtain ⟨e, a₁, w₁, hq, harr⟩ := hp b (.inScope c :: k) cs hro hb hr
      cases e with
      | normal => exact ⟨.normal, a₁, w₁, hq, StepsIn.trans harr (.one (fenced_calm hb hr rfl) stepR_inScope)⟩
      | exit id => exact ⟨.exit id, a₁, w₁, hq, fun k' hk => harr.1 k' (by rw [hx]; exact hk), fun hr' hk => harr.2 hr' (by rw [hx]; exact hk)⟩
      | goto l' =>
        obtain ⟨hJ', hlt⟩ := hq
        obtain ⟨e₂, a₂, w₂, hq₂, harr₂⟩ := ih _ (by omega) l' a₁ w₁ rfl hJ'
        exact ⟨e₂, a₂, w₂, hq₂, .of_steps (harr.1 _ (hg l' a₁ w₁ hJ')) harr₂⟩
      | ret => exact ⟨_, a₁, w₁, hq, harr⟩
      | panic ch => exact ⟨_, a₁, w₁, hq, harr⟩
      | outgrown => exact ⟨_, a₁, w₁, hq, harr⟩
  obtain ⟨e, a₁, w₁, hq, harr⟩ := first' b (.inScope c :: k) cs hro hb hr
  have h0 : (lone (b.atR a (.code (.scope c) :: k)) cs w).fenced P F := fenced_calm hb hr rfl
  cases e with
  | normal => exact ⟨.normal, a₁, w₁, hq, .head h0 stepR_scope (StepsIn.trans harr (.one (fenced_calm hb hr rfl) stepR_inScope))⟩
  | exit id => exact ⟨.exit id, a₁, w₁, hq, fun k' hk => .head h0 stepR_scope (harr.1 k' (by rw [hx]; exact hk)),
      fun hr' hk => let ⟨k₁, h1, h2⟩ := harr.2 hr' (by rw [hx]; exact hk); ⟨k₁, h1, .head h0 stepR_scope h2⟩⟩
  | goto l' =>
    obtain ⟨e₂, a₂, w₂, hq₂, harr₂⟩ := key _ l' a₁ w₁ rfl hq
    exact ⟨e₂, a₂, w₂, hq₂, .of_steps (.head h0 stepR_scope (harr.1 _ (hg l' a₁ w₁ hq))) harr₂⟩
  | ret => exact ⟨_, a₁, w₁, hq, .of_steps (.one h0 stepR_scope) harr⟩
  | panic ch => exact ⟨_, a₁, w₁, hq, .of_steps (.one h0 stepR_scope) harr⟩
  | outgrown => exact ⟨_, a₁, w₁, hq, .of_steps (.one h0 stepR_scope) harr⟩
end
end Go.Proofs.YtlpoglkddknedaaDoor.H

namespace Go.Proofs.YtlpoglkddknedaaDoor.H
open Go.RowKit Go.Proofs.YtlpoglkddknedaaDoor.T
set_option linter.unusedVariables false

/-- Every byte is a digit, and there is one. -/
def numF (s : ByteArray) : Bool := !s.data.toList.isEmpty && s.data.toList.all (fun b => decide (48 ≤ b.toNat ∧ b.toNat ≤ 57))
/-- The number of a result's string; -1: it is none. -/
def resF (s : ByteArray) : Int := if s.toList = [42] then 0 else if s.toList = [49, 45, 48] then 1 else if s.toList = [48, 45, 49] then 2 else if s.toList = [49, 47, 50, 45, 49, 47, 50] then 3 else -1
/-- The extent of a variation from behind its first token on, d deep; none: it does not end. -/
def varS : List S46 → Nat → Option Nat
  | [], _ => none
  | t :: r, d =>
    if t.f0 = 7 then (varS r (d + 1)).map (· + 1)
    else if t.f0 = 8 then (if d ≤ 1 then some 1 else (varS r (d - 1)).map (· + 1))
    else if t.f0 = 2 ∨ t.f0 = 3 ∨ t.f0 = 4 ∨ t.f0 = 9 ∨ t.f0 = 10 ∨ t.f0 = 11 then (varS r d).map (· + 1)
    else none
/-- How many tokens at the beginning are of a kind. -/
def lead (k : Int) : List S46 → Nat
  | [] => 0
  | t :: r => if t.f0 = k then lead k r + 1 else 0
/-- The moves from place i on, behind the moves ms; the result, the place behind, the error. -/
def parseN : Nat → List S46 → Nat → List ByteArray → Option (List ByteArray × Int × Int × Int)
  | 0, _, _, _ => none
  | k + 1, l, i, ms =>
    if h : i < l.length then
      if l[i].f0 = 10 ∨ l[i].f0 = 9 ∨ l[i].f0 = 11 then parseN k l (i + 1) ms
      else if l[i].f0 = 7 then
        match varS (l.drop (i + 1)) 1 with
        | some n => parseN k l (i + 1 + n) ms
        | none => some ([], 0, 0, 16)
      else if l[i].f0 = 4 then some (ms, 0, i + 1, 0)
      else if l[i].f0 = 2 then
        if numF l[i].f1 = true then parseN k l (i + 1 + lead 3 (l.drop (i + 1))) ms
        else if 1 ≤ resF l[i].f1 then some (ms, resF l[i].f1, i + 1, 0)
        else if ms.length = 300 then some ([], 0, 0, 18)
        else parseN k l (i + 1) (ms ++ [l[i].f1])
      else some ([], 0, 0, 16)
    else some ([], 0, 0, 16)
def parseF (l : List S46) (at_ : Int) : Option (List ByteArray × Int × Int × Int) :=
  if at_ < 0 ∨ (l.length : Int) < at_ then some ([], 0, 0, 3) else if l.length ≤ 140737488351232 ∧ l.all (fun t => decide (t.f1.size ≤ 9223372036854775807)) = true then parseN (l.length + 1) l at_.toNat [] else none
/-- The place of the first token from a place on that is no comment. -/
def skp (l : List S46) (i : Nat) : Nat := i + lead 10 (l.drop i)
def kindAt (l : List S46) (i : Nat) (k : Int) : Prop := ∃ h : i < l.length, l[i].f0 = k
instance (l : List S46) (i : Nat) (k : Int) : Decidable (kindAt l i k) := by unfold kindAt; infer_instance
def txt (l : List S46) (i : Nat) : ByteArray := (rd_T46 l i).f1
/-- The tags from place i on, behind the tags out; the place behind, the error. -/
def tagsN : Nat → List S46 → Nat → List S56 → Option (List S56 × Int × Int)
  | 0, _, _, _ => none
  | k + 1, l, i, out =>
    if kindAt l i 5 then
      if out.length = 24 then some ([], 0, 18)
      else if kindAt l (skp l (i + 1)) 2 then
        if kindAt l (skp l (skp l (i + 1) + 1)) 1 then
          if kindAt l (skp l (skp l (skp l (i + 1) + 1) + 1)) 6 then
            tagsN k l (skp l (skp l (skp l (skp l (i + 1) + 1) + 1) + 1)) (out ++ [⟨txt l (skp l (i + 1)), txt l (skp l (skp l (i + 1) + 1))⟩])
          else some ([], 0, 16)
        else some ([], 0, 16)
      else some ([], 0, 16)
    else some (out, i, 0)
def tagsF (l : List S46) (at_ : Int) : Option (List S56 × Int × Int) :=
  if at_ < 0 ∨ (l.length : Int) < at_ then some ([], 0, 3) else if l.length ≤ 140737488351232 then tagsN (l.length + 1) l (skp l at_.toNat) [] else none

theorem lead_le (k : Int) : ∀ l : List S46, lead k l ≤ l.length
  | [] => Nat.le_refl _
  | t :: r => by
    rw [lead]
    have := lead_le k r
    split <;> simp only [List.length_cons] <;> omega
theorem varS_le : ∀ (l : List S46) (d n : Nat), varS l d = some n → 1 ≤ n ∧ n ≤ l.length
  | [], _, _, h => by simp [varS] at h
  | t :: r, d, n, h => by
    rw [varS] at h
    have ih := varS_le r
    simp only [List.length_cons]
    repeat' split at h
    all_goals first
      | (obtain ⟨m, hm, rfl⟩ := Option.map_eq_some_iff.1 h; have := ih _ _ hm; omega)
      | (obtain rfl := Option.some.inj h; omega)
      | cases h
theorem skp_le (l : List S46) (i : Nat) (h : i ≤ l.length) : i ≤ skp l i ∧ skp l i ≤ l.length := by
  have := lead_le 10 (l.drop i)
  rw [List.length_drop] at this
  unfold skp
  omega
end Go.Proofs.YtlpoglkddknedaaDoor.H

namespace Go.Proofs.YtlpoglkddknedaaDoor.H
open Go.RowKit Go.Proofs.YtlpoglkddknedaaDoor.T Go.Proofs.YtlpoglkddknedaaDoorW.PrintWords Go.Proofs.YtlpoglkddknedaaDoorW.PrintLast
set_option linter.unusedVariables false
set_option linter.unusedSimpArgs false

def varJ (A0 : Option Addr) (c0 : Nat) (l0 : List S46) (R : Option Nat) (W : World) (l : Nat) (a' : Act) (w' : World) : Prop := match l with
  | 0 => ∃ (i : Int) (d : Nat) (u : Nat → Value), a' = { tmps := (.slice A0 l0.length c0 :: .int .i64 i :: u 2 :: u 3 :: .int .i64 0 :: .bool false :: .int .i64 (d : Int) :: u 7 :: u 8 :: u 9 :: u 10 :: u 11 :: u 12 :: u 13 :: u 14 :: u 15 :: u 16 :: u 17 :: u 18 :: u 19 :: u 20 :: u 21 :: u 22 :: u 23 :: u 24 :: u 25 :: u 26 :: u 27 :: u 28 :: u 29 :: u 30 :: u 31 :: u 32 :: u 33 :: u 34 :: u 35 :: []).toArray, defers := [] } ∧ 0 ≤ i ∧ 1 ≤ d ∧ (d : Int) ≤ i + 1 ∧ (varS (l0.drop i.toNat) d).map (· + i.toNat) = R ∧ Drawn0 W w'
  | _ => False
def varM (n : Nat) (a' : Act) (w' : World) : Nat := n + 1 - (Go.RowKit.intOf (a'.tmps.getD 1 undef)).toNat

theorem rd46 (l : List S46) (i : Int) (h0 : 0 ≤ i) (h : i < (l.length : Int)) : l.drop i.toNat = rd_T46 l i :: l.drop (i + 1).toNat := by
  have h1 : i.toNat < l.length := by omega
  rw [show (i + 1).toNat = i.toNat + 1 by omega, List.drop_eq_getElem_cons h1]
  unfold rd_T46
  rw [List.getD_eq_getElem?_getD, List.getElem?_eq_getElem h1]
  rfl

set_option maxHeartbeats 2000000 in
set_option maxRecDepth 100000 in
theorem variation_any (A0 : Option Addr) (c0 : Nat) (l0 : List S46) (i : Int) (W : World) (hi : 0 ≤ i) (hi2 : i < 9223372036854775808) (hlen : l0.length ≤ 140737488351232) (hr0 : Kd.C k46 W A0 l0.length l0) :
    Calls Tryd.prog 39 #[.slice A0 l0.length c0, .int .i64 i] W fun e w' => e = .returned (.tuple #[.int .i64 ((((varS (l0.drop i.toNat) 1).map (fun n => ((n + i.toNat : Nat) : Int))).getD 0)), .bool (varS (l0.drop i.toNat) 1).isSome]) ∧ Drawn0 W w' := by
  have HR := Lib.hid hr0
  clear hr0
  obtain ⟨R, hR⟩ : ∃ R, (varS (l0.drop i.toNat) 1).map (· + i.toNat) = R := ⟨_, rfl⟩
  have e1 : ((varS (l0.drop i.toNat) 1).map (fun n => ((n + i.toNat : Nat) : Int))).getD 0 = (R.map (fun n => (n : Int))).getD 0 := by rw [← hR]; cases varS (l0.drop i.toNat) 1 <;> rfl
  have e2 : (varS (l0.drop i.toNat) 1).isSome = R.isSome := by rw [← hR, Option.isSome_map]
  rw [e1, e2]
  clear e1 e2
  have HRR := Lib.hid hR
  clear hR
  go_enter Tryd.func39, Tryd.ntmps39
  go_wp2
  refine wp_scope_labels (varJ A0 c0 l0 R W) (fun _ a' w' => varM l0.length a' w') ?_ ?_ ?_
  · intro l a' w' h
    match l, h with
    | 0, _ => rfl
  · intro h0
    have H0 := Lib.hid h0
    clear h0
    go_wp2
    refine wp_label ?_
    rename_i K hK
    refine hK _ _ ?_
    exact H0.out _ _ ⟨i, 1, fun _ => undef, rfl, hi, by decide, by omega, HRR.out, Drawn0.refl _⟩
  · intro l a' w' h
    match l, h with
    | 0, h' =>
      clear h HRR
      obtain ⟨j, d, u, rfl, hj0, hd1, hdj, hv, ⟨nd, rfl⟩⟩ := h'
      simp only [behind, findLabel, seqTail, beq_self_eq_true, ↓reduceIte, Option.getD_some, Nat.reduceBEq, Bool.false_eq_true]
      have HV := Lib.hid hv
      clear hv
      by_cases hend : (l0.length : Int) ≤ j
      · have c1 : decide (j ≥ (l0.length : Int)) = true := decide_eq_true hend
        have c1' : decide ((l0.length : Int) ≤ j) = true := decide_eq_true hend
        have hv := HV.out
        rw [List.drop_eq_nil_of_le (by omega), varS] at hv
        obtain rfl := hv
        clear HV
        go_wp2
        simp only [jumps]
        go_ret2
        exact ⟨by simp, nd, rfl⟩
      · have hlt : j < (l0.length : Int) := by omega
        have c1 : decide ((l0.length : Int) ≤ j) = false := decide_eq_false hend
        have hv := HV.out
        rw [rd46 l0 j hj0 hlt, varS] at hv
        have HV2 := Lib.hid hv
        clear HV hv
        obtain ⟨ad, e, hx0, hx1, hx2⟩ := at_T46 HR.out j hj0 hlt
        subst e
        have p1 := eq_true hj0
        have p2 := eq_true hlt
        clear c1
        have c1 : decide ((l0.length : Int) ≤ j) = false := decide_eq_false hend
        have hjump : ∀ (d' : Nat) (u' : Nat → Value) (nd' : Nat), 1 ≤ d' → (d' : Int) ≤ j + 1 + 1 → (varS (l0.drop (j + 1).toNat) d').map (· + (j + 1).toNat) = R → varJ (some ad) c0 l0 R W 0 { tmps := (.slice (some ad) l0.length c0 :: .int .i64 (j + 1) :: u' 2 :: u' 3 :: .int .i64 0 :: .bool false :: .int .i64 (d' : Int) :: u' 7 :: u' 8 :: u' 9 :: u' 10 :: u' 11 :: u' 12 :: u' 13 :: u' 14 :: u' 15 :: u' 16 :: u' 17 :: u' 18 :: u' 19 :: u' 20 :: u' 21 :: u' 22 :: u' 23 :: u' 24 :: u' 25 :: u' 26 :: u' 27 :: u' 28 :: u' 29 :: u' 30 :: u' 31 :: u' 32 :: u' 33 :: u' 34 :: u' 35 :: []).toArray, defers := [] } (W.drewN nd') ∧ varM l0.length { tmps := (.slice (some ad) l0.length c0 :: .int .i64 (j + 1) :: u' 2 :: u' 3 :: .int .i64 0 :: .bool false :: .int .i64 (d' : Int) :: u' 7 :: u' 8 :: u' 9 :: u' 10 :: u' 11 :: u' 12 :: u' 13 :: u' 14 :: u' 15 :: u' 16 :: u' 17 :: u' 18 :: u' 19 :: u' 20 :: u' 21 :: u' 22 :: u' 23 :: u' 24 :: u' 25 :: u' 26 :: u' 27 :: u' 28 :: u' 29 :: u' 30 :: u' 31 :: u' 32 :: u' 33 :: u' 34 :: u' 35 :: []).toArray, defers := [] } (W.drewN nd') < varM l0.length { tmps := (.slice (some ad) l0.length c0 :: .int .i64 j :: u 2 :: u 3 :: .int .i64 0 :: .bool false :: .int .i64 (d : Int) :: u 7 :: u 8 :: u 9 :: u 10 :: u 11 :: u 12 :: u 13 :: u 14 :: u 15 :: u 16 :: u 17 :: u 18 :: u 19 :: u 20 :: u 21 :: u 22 :: u 23 :: u 24 :: u 25 :: u 26 :: u 27 :: u 28 :: u 29 :: u 30 :: u 31 :: u 32 :: u 33 :: u 34 :: u 35 :: []).toArray, defers := [] } (W.drewN nd) := by
          intro d' u' nd' h1 h2 h3
          refine ⟨⟨j + 1, d', u', rfl, by omega, h1, h2, h3, nd', rfl⟩, ?_⟩
          show l0.length + 1 - (j + 1).toNat < l0.length + 1 - j.toNat
          omega
        have HJ := Lib.hid hjump
        clear hjump
        have hsub : (j + 1).toNat = j.toNat + 1 := by omega
        have hv := HV2.out
        clear HV2
        have hdl : (d : Int) ≤ 140737488351232 := by omega
        by_cases k7 : (rd_T46 l0 j).f0 = 7
        · have k7b : ((rd_T46 l0 j).f0 == 7) = true := beq_iff_eq.2 k7
          rw [if_pos k7] at hv
          have hv2 : (varS (l0.drop (j + 1).toNat) (d + 1)).map (· + (j + 1).toNat) = R := by rw [← hv, Option.map_map, hsub]; congr 1; funext x; show x + (j.toNat + 1) = x + 1 + j.toNat; omega
          have HV2 := Lib.hid hv2
          clear hv hv2
          go_wp2
          refine wp_goto ?_
          exact HJ.out (d + 1) (fun i => List.getD [undef, undef, _, _, undef, undef, undef, _, _, _, _, _, _, _, _, _, _, _, _, _, _, _, _, _, _, _, _, _, _, _, _, _, _, _, _, _] i undef) _ (by omega) (by omega) HV2.out
        · have k7b : ((rd_T46 l0 j).f0 == 7) = false := beq_eq_false_iff_ne.2 k7
          rw [if_neg k7] at hv
          by_cases k8 : (rd_T46 l0 j).f0 = 8
          · have k8b : ((rd_T46 l0 j).f0 == 8) = true := beq_iff_eq.2 k8
            rw [if_pos k8] at hv
            by_cases hd : d ≤ 1
            · obtain rfl : d = 1 := by omega
              rw [if_pos (Nat.le_refl _)] at hv
              obtain rfl := hv
              go_wp2
              simp only [jumps]
              go_ret2
              exact ⟨by simp; omega, nd, rfl⟩
            · rw [if_neg hd] at hv
              have hv2 : (varS (l0.drop (j + 1).toNat) (d - 1)).map (· + (j + 1).toNat) = R := by rw [← hv, Option.map_map, hsub]; congr 1; funext x; show x + (j.toNat + 1) = x + 1 + j.toNat; omega
              have HV2 := Lib.hid hv2
              clear hv hv2
              have d0 : decide (0 < (d : Int) - 1) = true := decide_eq_true (by omega)
              have d1 : (d : Int) - 1 = ((d - 1 : Nat) : Int) := by omega
              go_wp2
              refine wp_goto ?_
              exact HJ.out (d - 1) (fun i => List.getD [undef, undef, _, _, undef, undef, undef, _, _, _, _, _, _, _, _, _, _, _, _, _, _, _, _, _, _, _, _, _, _, _, _, _, _, _, _, _] i undef) _ (by omega) (by omega) HV2.out
          · have k8b : ((rd_T46 l0 j).f0 == 8) = false := beq_eq_false_iff_ne.2 k8
            rw [if_neg k8] at hv
            by_cases kp : (rd_T46 l0 j).f0 = 2 ∨ (rd_T46 l0 j).f0 = 3 ∨ (rd_T46 l0 j).f0 = 4 ∨ (rd_T46 l0 j).f0 = 9 ∨ (rd_T46 l0 j).f0 = 10 ∨ (rd_T46 l0 j).f0 = 11
            · rw [if_pos kp] at hv
              have hv2 : (varS (l0.drop (j + 1).toNat) d).map (· + (j + 1).toNat) = R := by rw [← hv, Option.map_map, hsub]; congr 1; funext x; show x + (j.toNat + 1) = x + 1 + j.toNat; omega
              have HV2 := Lib.hid hv2
              clear hv hv2
              have d0 : decide (0 < (d : Int)) = true := decide_eq_true (by omega)
              generalize (rd_T46 l0 j).f0 = kk at *
              rcases kp with rfl | rfl | rfl | rfl | rfl | rfl
              all_goals
                go_wp2
                refine wp_goto ?_
                exact HJ.out d (fun i => List.getD [undef, undef, _, _, undef, undef, undef, _, _, _, _, _, _, _, _, _, _, _, _, _, _, _, _, _, _, _, _, _, _, _, _, _, _, _, _, _] i undef) _ (by omega) (by omega) HV2.out
            · rw [if_neg kp] at hv
              obtain rfl := hv
              have q2 : ((rd_T46 l0 j).f0 == 2) = false := beq_eq_false_iff_ne.2 (fun h => kp (by simp [h]))
              have q3 : ((rd_T46 l0 j).f0 == 3) = false := beq_eq_false_iff_ne.2 (fun h => kp (by simp [h]))
              have q4 : ((rd_T46 l0 j).f0 == 4) = false := beq_eq_false_iff_ne.2 (fun h => kp (by simp [h]))
              have q9 : ((rd_T46 l0 j).f0 == 9) = false := beq_eq_false_iff_ne.2 (fun h => kp (by simp [h]))
              have q10 : ((rd_T46 l0 j).f0 == 10) = false := beq_eq_false_iff_ne.2 (fun h => kp (by simp [h]))
              have q11 : ((rd_T46 l0 j).f0 == 11) = false := beq_eq_false_iff_ne.2 (fun h => kp (by simp [h]))
              go_wp2
              simp only [jumps]
              go_ret2
              exact ⟨by simp, nd, rfl⟩
end Go.Proofs.YtlpoglkddknedaaDoor.H

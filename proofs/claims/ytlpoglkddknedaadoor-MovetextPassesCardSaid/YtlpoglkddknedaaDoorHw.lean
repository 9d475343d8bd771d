/- works: the law's own checks of the movetext's constants, which answer true. Condition: the variables hold what their initialisers lay. -/
import Derived.Test.YtlpoglkddknedaaDoorHq
import Derived.Test.YtlpoglkddknedaaDoorHu
import Derived.Test.YtlpoglkddknedaaDoorTx15
import Derived.Test.YtlpoglkddknedaaDoorTx6
import Derived.LoopN
namespace Go.Proofs.YtlpoglkddknedaaDoor.H
open Go.RowKit Go.Shelf Go.Proofs.YtlpoglkddknedaaDoor.T Go.Proofs.YtlpoglkddknedaaDoorW.PrintWords Go.Proofs.YtlpoglkddknedaaDoorW.PrintLast
set_option linter.unusedVariables false
set_option linter.unusedSimpArgs false

def L0 : List S46 := [⟨2, (⟨#[49]⟩ : ByteArray), 0⟩, ⟨3, (⟨#[46]⟩ : ByteArray), 1⟩, ⟨2, (⟨#[101, 52]⟩ : ByteArray), 3⟩, ⟨2, (⟨#[101, 53]⟩ : ByteArray), 6⟩, ⟨2, (⟨#[50]⟩ : ByteArray), 9⟩, ⟨3, (⟨#[46]⟩ : ByteArray), 10⟩, ⟨2, (⟨#[78, 102, 51]⟩ : ByteArray), 12⟩, ⟨4, (⟨#[42]⟩ : ByteArray), 16⟩]
theorem s0 : tempolaw25_scan.f (⟨#[49, 46, 32, 101, 52, 32, 101, 53, 32, 50, 46, 32, 78, 102, 51, 32, 42]⟩ : ByteArray) = some L0 := by kernel_rfl
theorem sc0 (w : World) : Calls Tryd.prog 48 #[.string (⟨#[49, 46, 32, 101, 52, 32, 101, 53, 32, 50, 46, 32, 78, 102, 51, 32, 42]⟩)] w fun e w' => ∃ (A : Option Addr) (c : Nat), e = .returned (.slice A 8 c) ∧ 8 ≤ c ∧ Kd.C k46 w' A 8 L0 ∧ Below w.heap.size w w' := by
  refine (tempolaw25_scan.calls _ _ w s0).mono ?_
  rintro e w' ⟨v, rfl, hr, hb⟩
  obtain ⟨A, c, rfl, hc, hC⟩ := Kd.R_reads hr
  exact ⟨A, c, rfl, hc, hC, hb⟩
theorem p0 : parseF L0 0 = some (([⟨#[101, 52]⟩, ⟨#[101, 53]⟩, ⟨#[78, 102, 51]⟩] : List ByteArray), 0, 8, 0) := by kernel_rfl
theorem pa0 (w : World) (A : Option Addr) (c : Nat) (hc : 8 ≤ c) (hC : Kd.C k46 w A 8 L0) (hg : Laid w) : Calls Tryd.prog 10 #[.slice A 8 c, .int .i64 0] w fun e w' => ∃ (A : Option Addr) (c : Nat), e = .returned (.tuple #[.agg #[.slice A 3 c, .int .i64 0], .int .i64 8, .int .i64 0]) ∧ 3 ≤ c ∧ Kd.C Kd.string w' A 3 [⟨#[101, 52]⟩, ⟨#[101, 53]⟩, ⟨#[78, 102, 51]⟩] ∧ Below w.heap.size w w' := by
  refine (Parse_calls A c L0 0 _ _ _ _ w hC hc p0 hg).mono ?_
  rintro e w' ⟨v, rfl, hr, hb⟩
  obtain ⟨A, c, rfl, hc, hC⟩ := Kd.R_reads hr
  exact ⟨A, c, rfl, hc, hC, hb⟩
def L1 : List S46 := [⟨2, (⟨#[49]⟩ : ByteArray), 0⟩, ⟨3, (⟨#[46]⟩ : ByteArray), 1⟩, ⟨2, (⟨#[101, 52]⟩ : ByteArray), 3⟩, ⟨7, (⟨#[40]⟩ : ByteArray), 6⟩, ⟨2, (⟨#[49]⟩ : ByteArray), 7⟩, ⟨3, (⟨#[46]⟩ : ByteArray), 8⟩, ⟨2, (⟨#[100, 52]⟩ : ByteArray), 10⟩, ⟨7, (⟨#[40]⟩ : ByteArray), 13⟩, ⟨2, (⟨#[49]⟩ : ByteArray), 14⟩, ⟨3, (⟨#[46]⟩ : ByteArray), 15⟩, ⟨2, (⟨#[99, 52]⟩ : ByteArray), 17⟩, ⟨8, (⟨#[41]⟩ : ByteArray), 19⟩, ⟨2, (⟨#[100, 53]⟩ : ByteArray), 21⟩, ⟨8, (⟨#[41]⟩ : ByteArray), 23⟩, ⟨2, (⟨#[101, 53]⟩ : ByteArray), 25⟩, ⟨10, (⟨#[103, 111, 111, 100]⟩ : ByteArray), 28⟩, ⟨9, (⟨#[49]⟩ : ByteArray), 35⟩, ⟨11, (⟨#[33, 63]⟩ : ByteArray), 38⟩, ⟨2, (⟨#[48, 45, 49]⟩ : ByteArray), 41⟩]
theorem s1 : tempolaw25_scan.f (⟨#[49, 46, 32, 101, 52, 32, 40, 49, 46, 32, 100, 52, 32, 40, 49, 46, 32, 99, 52, 41, 32, 100, 53, 41, 32, 101, 53, 32, 123, 103, 111, 111, 100, 125, 32, 36, 49, 32, 33, 63, 32, 48, 45, 49]⟩ : ByteArray) = some L1 := by kernel_rfl
theorem sc1 (w : World) : Calls Tryd.prog 48 #[.string (⟨#[49, 46, 32, 101, 52, 32, 40, 49, 46, 32, 100, 52, 32, 40, 49, 46, 32, 99, 52, 41, 32, 100, 53, 41, 32, 101, 53, 32, 123, 103, 111, 111, 100, 125, 32, 36, 49, 32, 33, 63, 32, 48, 45, 49]⟩)] w fun e w' => ∃ (A : Option Addr) (c : Nat), e = .returned (.slice A 19 c) ∧ 19 ≤ c ∧ Kd.C k46 w' A 19 L1 ∧ Below w.heap.size w w' := by
  refine (tempolaw25_scan.calls _ _ w s1).mono ?_
  rintro e w' ⟨v, rfl, hr, hb⟩
  obtain ⟨A, c, rfl, hc, hC⟩ := Kd.R_reads hr
  exact ⟨A, c, rfl, hc, hC, hb⟩
theorem p1 : parseF L1 0 = some (([⟨#[101, 52]⟩, ⟨#[101, 53]⟩] : List ByteArray), 2, 19, 0) := by kernel_rfl
theorem pa1 (w : World) (A : Option Addr) (c : Nat) (hc : 19 ≤ c) (hC : Kd.C k46 w A 19 L1) (hg : Laid w) : Calls Tryd.prog 10 #[.slice A 19 c, .int .i64 0] w fun e w' => ∃ (A : Option Addr) (c : Nat), e = .returned (.tuple #[.agg #[.slice A 2 c, .int .i64 2], .int .i64 19, .int .i64 0]) ∧ 2 ≤ c ∧ Kd.C Kd.string w' A 2 [⟨#[101, 52]⟩, ⟨#[101, 53]⟩] ∧ Below w.heap.size w w' := by
  refine (Parse_calls A c L1 0 _ _ _ _ w hC hc p1 hg).mono ?_
  rintro e w' ⟨v, rfl, hr, hb⟩
  obtain ⟨A, c, rfl, hc, hC⟩ := Kd.R_reads hr
  exact ⟨A, c, rfl, hc, hC, hb⟩
def L2 : List S46 := [⟨2, (⟨#[101, 52]⟩ : ByteArray), 0⟩]
theorem s2 : tempolaw25_scan.f (⟨#[101, 52]⟩ : ByteArray) = some L2 := by kernel_rfl
theorem sc2 (w : World) : Calls Tryd.prog 48 #[.string (⟨#[101, 52]⟩)] w fun e w' => ∃ (A : Option Addr) (c : Nat), e = .returned (.slice A 1 c) ∧ 1 ≤ c ∧ Kd.C k46 w' A 1 L2 ∧ Below w.heap.size w w' := by
  refine (tempolaw25_scan.calls _ _ w s2).mono ?_
  rintro e w' ⟨v, rfl, hr, hb⟩
  obtain ⟨A, c, rfl, hc, hC⟩ := Kd.R_reads hr
  exact ⟨A, c, rfl, hc, hC, hb⟩
theorem p2 : parseF L2 0 = some (([] : List ByteArray), 0, 0, 16) := by kernel_rfl
theorem pa2 (w : World) (A : Option Addr) (c : Nat) (hc : 1 ≤ c) (hC : Kd.C k46 w A 1 L2) (hg : Laid w) : Calls Tryd.prog 10 #[.slice A 1 c, .int .i64 0] w fun e w' => ∃ (A : Option Addr) (c : Nat), e = .returned (.tuple #[.agg #[.slice A 0 c, .int .i64 0], .int .i64 0, .int .i64 16]) ∧ 0 ≤ c ∧ Kd.C Kd.string w' A 0 [] ∧ Below w.heap.size w w' := by
  refine (Parse_calls A c L2 0 _ _ _ _ w hC hc p2 hg).mono ?_
  rintro e w' ⟨v, rfl, hr, hb⟩
  obtain ⟨A, c, rfl, hc, hC⟩ := Kd.R_reads hr
  exact ⟨A, c, rfl, hc, hC, hb⟩
def L3 : List S46 := [⟨3, (⟨#[46]⟩ : ByteArray), 0⟩, ⟨2, (⟨#[101, 52]⟩ : ByteArray), 2⟩, ⟨4, (⟨#[42]⟩ : ByteArray), 5⟩]
theorem s3 : tempolaw25_scan.f (⟨#[46, 32, 101, 52, 32, 42]⟩ : ByteArray) = some L3 := by kernel_rfl
theorem sc3 (w : World) : Calls Tryd.prog 48 #[.string (⟨#[46, 32, 101, 52, 32, 42]⟩)] w fun e w' => ∃ (A : Option Addr) (c : Nat), e = .returned (.slice A 3 c) ∧ 3 ≤ c ∧ Kd.C k46 w' A 3 L3 ∧ Below w.heap.size w w' := by
  refine (tempolaw25_scan.calls _ _ w s3).mono ?_
  rintro e w' ⟨v, rfl, hr, hb⟩
  obtain ⟨A, c, rfl, hc, hC⟩ := Kd.R_reads hr
  exact ⟨A, c, rfl, hc, hC, hb⟩
theorem p3 : parseF L3 0 = some (([] : List ByteArray), 0, 0, 16) := by kernel_rfl
theorem pa3 (w : World) (A : Option Addr) (c : Nat) (hc : 3 ≤ c) (hC : Kd.C k46 w A 3 L3) (hg : Laid w) : Calls Tryd.prog 10 #[.slice A 3 c, .int .i64 0] w fun e w' => ∃ (A : Option Addr) (c : Nat), e = .returned (.tuple #[.agg #[.slice A 0 c, .int .i64 0], .int .i64 0, .int .i64 16]) ∧ 0 ≤ c ∧ Kd.C Kd.string w' A 0 [] ∧ Below w.heap.size w w' := by
  refine (Parse_calls A c L3 0 _ _ _ _ w hC hc p3 hg).mono ?_
  rintro e w' ⟨v, rfl, hr, hb⟩
  obtain ⟨A, c, rfl, hc, hC⟩ := Kd.R_reads hr
  exact ⟨A, c, rfl, hc, hC, hb⟩
def L4 : List S46 := [⟨2, (⟨#[101, 52]⟩ : ByteArray), 0⟩, ⟨7, (⟨#[40]⟩ : ByteArray), 3⟩, ⟨4, (⟨#[42]⟩ : ByteArray), 5⟩]
theorem s4 : tempolaw25_scan.f (⟨#[101, 52, 32, 40, 32, 42]⟩ : ByteArray) = some L4 := by kernel_rfl
theorem sc4 (w : World) : Calls Tryd.prog 48 #[.string (⟨#[101, 52, 32, 40, 32, 42]⟩)] w fun e w' => ∃ (A : Option Addr) (c : Nat), e = .returned (.slice A 3 c) ∧ 3 ≤ c ∧ Kd.C k46 w' A 3 L4 ∧ Below w.heap.size w w' := by
  refine (tempolaw25_scan.calls _ _ w s4).mono ?_
  rintro e w' ⟨v, rfl, hr, hb⟩
  obtain ⟨A, c, rfl, hc, hC⟩ := Kd.R_reads hr
  exact ⟨A, c, rfl, hc, hC, hb⟩
theorem p4 : parseF L4 0 = some (([] : List ByteArray), 0, 0, 16) := by kernel_rfl
theorem pa4 (w : World) (A : Option Addr) (c : Nat) (hc : 3 ≤ c) (hC : Kd.C k46 w A 3 L4) (hg : Laid w) : Calls Tryd.prog 10 #[.slice A 3 c, .int .i64 0] w fun e w' => ∃ (A : Option Addr) (c : Nat), e = .returned (.tuple #[.agg #[.slice A 0 c, .int .i64 0], .int .i64 0, .int .i64 16]) ∧ 0 ≤ c ∧ Kd.C Kd.string w' A 0 [] ∧ Below w.heap.size w w' := by
  refine (Parse_calls A c L4 0 _ _ _ _ w hC hc p4 hg).mono ?_
  rintro e w' ⟨v, rfl, hr, hb⟩
  obtain ⟨A, c, rfl, hc, hC⟩ := Kd.R_reads hr
  exact ⟨A, c, rfl, hc, hC, hb⟩
def L5 : List S46 := [⟨2, (⟨#[101, 52]⟩ : ByteArray), 0⟩, ⟨8, (⟨#[41]⟩ : ByteArray), 3⟩, ⟨4, (⟨#[42]⟩ : ByteArray), 5⟩]
theorem s5 : tempolaw25_scan.f (⟨#[101, 52, 32, 41, 32, 42]⟩ : ByteArray) = some L5 := by kernel_rfl
theorem sc5 (w : World) : Calls Tryd.prog 48 #[.string (⟨#[101, 52, 32, 41, 32, 42]⟩)] w fun e w' => ∃ (A : Option Addr) (c : Nat), e = .returned (.slice A 3 c) ∧ 3 ≤ c ∧ Kd.C k46 w' A 3 L5 ∧ Below w.heap.size w w' := by
  refine (tempolaw25_scan.calls _ _ w s5).mono ?_
  rintro e w' ⟨v, rfl, hr, hb⟩
  obtain ⟨A, c, rfl, hc, hC⟩ := Kd.R_reads hr
  exact ⟨A, c, rfl, hc, hC, hb⟩
theorem p5 : parseF L5 0 = some (([] : List ByteArray), 0, 0, 16) := by kernel_rfl
theorem pa5 (w : World) (A : Option Addr) (c : Nat) (hc : 3 ≤ c) (hC : Kd.C k46 w A 3 L5) (hg : Laid w) : Calls Tryd.prog 10 #[.slice A 3 c, .int .i64 0] w fun e w' => ∃ (A : Option Addr) (c : Nat), e = .returned (.tuple #[.agg #[.slice A 0 c, .int .i64 0], .int .i64 0, .int .i64 16]) ∧ 0 ≤ c ∧ Kd.C Kd.string w' A 0 [] ∧ Below w.heap.size w w' := by
  refine (Parse_calls A c L5 0 _ _ _ _ w hC hc p5 hg).mono ?_
  rintro e w' ⟨v, rfl, hr, hb⟩
  obtain ⟨A, c, rfl, hc, hC⟩ := Kd.R_reads hr
  exact ⟨A, c, rfl, hc, hC, hb⟩
def L6 : List S46 := [⟨2, (⟨#[101, 52]⟩ : ByteArray), 0⟩, ⟨5, (⟨#[91]⟩ : ByteArray), 3⟩, ⟨4, (⟨#[42]⟩ : ByteArray), 5⟩]
theorem s6 : tempolaw25_scan.f (⟨#[101, 52, 32, 91, 32, 42]⟩ : ByteArray) = some L6 := by kernel_rfl
theorem sc6 (w : World) : Calls Tryd.prog 48 #[.string (⟨#[101, 52, 32, 91, 32, 42]⟩)] w fun e w' => ∃ (A : Option Addr) (c : Nat), e = .returned (.slice A 3 c) ∧ 3 ≤ c ∧ Kd.C k46 w' A 3 L6 ∧ Below w.heap.size w w' := by
  refine (tempolaw25_scan.calls _ _ w s6).mono ?_
  rintro e w' ⟨v, rfl, hr, hb⟩
  obtain ⟨A, c, rfl, hc, hC⟩ := Kd.R_reads hr
  exact ⟨A, c, rfl, hc, hC, hb⟩
theorem p6 : parseF L6 0 = some (([] : List ByteArray), 0, 0, 16) := by kernel_rfl
theorem pa6 (w : World) (A : Option Addr) (c : Nat) (hc : 3 ≤ c) (hC : Kd.C k46 w A 3 L6) (hg : Laid w) : Calls Tryd.prog 10 #[.slice A 3 c, .int .i64 0] w fun e w' => ∃ (A : Option Addr) (c : Nat), e = .returned (.tuple #[.agg #[.slice A 0 c, .int .i64 0], .int .i64 0, .int .i64 16]) ∧ 0 ≤ c ∧ Kd.C Kd.string w' A 0 [] ∧ Below w.heap.size w w' := by
  refine (Parse_calls A c L6 0 _ _ _ _ w hC hc p6 hg).mono ?_
  rintro e w' ⟨v, rfl, hr, hb⟩
  obtain ⟨A, c, rfl, hc, hC⟩ := Kd.R_reads hr
  exact ⟨A, c, rfl, hc, hC, hb⟩
def L7 : List S46 := [⟨5, (⟨#[91]⟩ : ByteArray), 0⟩, ⟨2, (⟨#[69, 118, 101, 110, 116]⟩ : ByteArray), 1⟩, ⟨1, (⟨#[120]⟩ : ByteArray), 7⟩, ⟨6, (⟨#[93]⟩ : ByteArray), 10⟩, ⟨10, (⟨#[99]⟩ : ByteArray), 12⟩, ⟨5, (⟨#[91]⟩ : ByteArray), 16⟩, ⟨2, (⟨#[83, 105, 116, 101]⟩ : ByteArray), 17⟩, ⟨1, (⟨#[121]⟩ : ByteArray), 22⟩, ⟨6, (⟨#[93]⟩ : ByteArray), 25⟩, ⟨2, (⟨#[101, 52]⟩ : ByteArray), 27⟩]
theorem s7 : tempolaw25_scan.f (⟨#[91, 69, 118, 101, 110, 116, 32, 34, 120, 34, 93, 32, 123, 99, 125, 32, 91, 83, 105, 116, 101, 32, 34, 121, 34, 93, 32, 101, 52]⟩ : ByteArray) = some L7 := by kernel_rfl
theorem sc7 (w : World) : Calls Tryd.prog 48 #[.string (⟨#[91, 69, 118, 101, 110, 116, 32, 34, 120, 34, 93, 32, 123, 99, 125, 32, 91, 83, 105, 116, 101, 32, 34, 121, 34, 93, 32, 101, 52]⟩)] w fun e w' => ∃ (A : Option Addr) (c : Nat), e = .returned (.slice A 10 c) ∧ 10 ≤ c ∧ Kd.C k46 w' A 10 L7 ∧ Below w.heap.size w w' := by
  refine (tempolaw25_scan.calls _ _ w s7).mono ?_
  rintro e w' ⟨v, rfl, hr, hb⟩
  obtain ⟨A, c, rfl, hc, hC⟩ := Kd.R_reads hr
  exact ⟨A, c, rfl, hc, hC, hb⟩
theorem p7 : tagsF L7 0 = some (([⟨⟨#[69, 118, 101, 110, 116]⟩, ⟨#[120]⟩⟩, ⟨⟨#[83, 105, 116, 101]⟩, ⟨#[121]⟩⟩] : List S56), 9, 0) := by kernel_rfl
theorem ta7 (w : World) (A : Option Addr) (c : Nat) (hc : 10 ≤ c) (hC : Kd.C k46 w A 10 L7) : Calls Tryd.prog 11 #[.slice A 10 c, .int .i64 0] w fun e w' => ∃ (A : Option Addr) (c : Nat), e = .returned (.tuple #[.slice A 2 c, .int .i64 9, .int .i64 0]) ∧ 2 ≤ c ∧ Kd.C k56 w' A 2 [⟨⟨#[69, 118, 101, 110, 116]⟩, ⟨#[120]⟩⟩, ⟨⟨#[83, 105, 116, 101]⟩, ⟨#[121]⟩⟩] ∧ Below w.heap.size w w' := by
  refine (Tags_calls A c L7 0 _ _ _ w hC hc p7).mono ?_
  rintro e w' ⟨v, rfl, hr, hb⟩
  obtain ⟨A, c, rfl, hc, hC⟩ := Kd.R_reads hr
  exact ⟨A, c, rfl, hc, hC, hb⟩
def L8 : List S46 := [⟨5, (⟨#[91]⟩ : ByteArray), 0⟩, ⟨2, (⟨#[69, 118, 101, 110, 116]⟩ : ByteArray), 1⟩, ⟨6, (⟨#[93]⟩ : ByteArray), 6⟩]
theorem s8 : tempolaw25_scan.f (⟨#[91, 69, 118, 101, 110, 116, 93]⟩ : ByteArray) = some L8 := by kernel_rfl
theorem sc8 (w : World) : Calls Tryd.prog 48 #[.string (⟨#[91, 69, 118, 101, 110, 116, 93]⟩)] w fun e w' => ∃ (A : Option Addr) (c : Nat), e = .returned (.slice A 3 c) ∧ 3 ≤ c ∧ Kd.C k46 w' A 3 L8 ∧ Below w.heap.size w w' := by
  refine (tempolaw25_scan.calls _ _ w s8).mono ?_
  rintro e w' ⟨v, rfl, hr, hb⟩
  obtain ⟨A, c, rfl, hc, hC⟩ := Kd.R_reads hr
  exact ⟨A, c, rfl, hc, hC, hb⟩
theorem p8 : tagsF L8 0 = some (([] : List S56), 0, 16) := by kernel_rfl
theorem ta8 (w : World) (A : Option Addr) (c : Nat) (hc : 3 ≤ c) (hC : Kd.C k46 w A 3 L8) : Calls Tryd.prog 11 #[.slice A 3 c, .int .i64 0] w fun e w' => ∃ (A : Option Addr) (c : Nat), e = .returned (.tuple #[.slice A 0 c, .int .i64 0, .int .i64 16]) ∧ 0 ≤ c ∧ Kd.C k56 w' A 0 [] ∧ Below w.heap.size w w' := by
  refine (Tags_calls A c L8 0 _ _ _ w hC hc p8).mono ?_
  rintro e w' ⟨v, rfl, hr, hb⟩
  obtain ⟨A, c, rfl, hc, hC⟩ := Kd.R_reads hr
  exact ⟨A, c, rfl, hc, hC, hb⟩

theorem litS (w : World) (b : Nat) (l : List ByteArray) (cs : Array Value) (hcs : cs = (l.map Value.string).toArray) (hl : l.length ≤ 9223372036854775807) (h : w.heap[b]? = some (.cells cs 9 (0, 0))) : Kd.C Kd.string w (some ⟨b, 0, none⟩) l.length l := by
  refine ⟨rfl, hl, fun _ => ⟨_, rfl, fun j p hj => ⟨[.string p], rfl, rfl, fun i u hu => ?_⟩⟩⟩
  have hj2 := (List.getElem?_eq_some_iff.1 hj).1
  match i, hu with
  | 0, hu =>
    obtain rfl := Option.some.inj hu
    have h1 := blk_cell h j
    rw [hcs] at h1
    show w.cell? (Addr.add ⟨b, 0, none⟩ (j * 1 + 0)) = _
    rw [Nat.mul_one, Nat.add_zero]
    have h2 : Addr.add ⟨b, 0, none⟩ j = ⟨b, j, none⟩ := by unfold Addr.add; split <;> simp_all
    rw [h2, h1]
    simp [hj]
theorem litT (w : World) (b : Nat) (l : List S56) (cs : Array Value) (hcs : cs = (l.flatMap fun x => [Value.string x.f0, .string x.f1]).toArray) (hl : l.length ≤ 9223372036854775807) (h : w.heap[b]? = some (.cells cs 56 (0, 0))) : Kd.C k56 w (some ⟨b, 0, none⟩) l.length l := by
  refine ⟨rfl, hl, fun _ => ⟨_, rfl, fun j p hj => ⟨[.string p.f0, .string p.f1], rfl, k56_mk w p, fun i u hu => ?_⟩⟩⟩
  have hflat : ∀ (l : List S56) (j i : Nat) (p : S56), l[j]? = some p → i < 2 → (l.flatMap fun x => [Value.string x.f0, .string x.f1])[j * 2 + i]? = ([Value.string p.f0, .string p.f1])[i]? := by
    intro l
    induction l with
    | nil => intro j i p h; simp at h
    | cons y l ih =>
      intro j i p h hi
      cases j with
      | zero =>
        obtain rfl : y = p := by simpa using h
        rw [List.flatMap_cons, Nat.zero_mul, Nat.zero_add, List.getElem?_append_left (by simpa using hi)]
      | succ j =>
        rw [List.flatMap_cons, List.getElem?_append_right (by simp only [List.length_cons, List.length_nil]; omega), ← ih j i p (by simpa using h) hi]
        congr 1
        simp only [List.length_cons, List.length_nil]
        omega
  have hi : i < 2 := by have := (List.getElem?_eq_some_iff.1 hu).1; simpa using this
  have h1 := blk_cell h (j * 2 + i)
  rw [hcs] at h1
  show w.cell? (Addr.add ⟨b, 0, none⟩ (j * 2 + i)) = _
  have h2 : Addr.add ⟨b, 0, none⟩ (j * 2 + i) = ⟨b, j * 2 + i, none⟩ := by unfold Addr.add; split <;> simp_all
  rw [h2, h1, List.getElem?_toArray, hflat l j i p hj hi]
  exact hu
structure WS (W : World) (ba bb : Nat) (Aa : Option Addr) (ca : Nat) (Ab : Option Addr) (cb : Nat) (w : World) : Prop where
  a : w.heap[ba]? = some (.cells #[.slice Aa 3 ca, .int .i64 0] 27 (0, 0))
  b : w.heap[bb]? = some (.cells #[.slice Ab 2 cb, .int .i64 2] 27 (0, 0))
  Ca : Kd.C Kd.string w Aa 3 [⟨#[101, 52]⟩, ⟨#[101, 53]⟩, ⟨#[78, 102, 51]⟩]
  Cb : Kd.C Kd.string w Ab 2 [⟨#[101, 52]⟩, ⟨#[101, 53]⟩]
  bel : Below W.heap.size W w
theorem WS.below {W : World} {ba bb : Nat} {Aa : Option Addr} {ca : Nat} {Ab : Option Addr} {cb : Nat} {w w' : World} (h : WS W ba bb Aa ca Ab cb w) (hb : Below w.heap.size w w') : WS W ba bb Aa ca Ab cb w' :=
  ⟨blk_below h.a hb, blk_below h.b hb, Kd.C_below h.Ca hb, Kd.C_below h.Cb hb, h.bel.trans (hb.mono h.bel.size)⟩
theorem bel2 {w w' : World} {q : Nat} (h : Below w.heap.size w w') (hq : w.heap.size ≤ q) (i j : Nat) (x y : Value) : Below w.heap.size w ((w'.setCell ⟨q, i, none⟩ x).setCell ⟨q, j, none⟩ y) := below_set (below_set h hq) hq

theorem wrap0 (w : World) (hg : Laid w) : Calls Tryd.prog 12 #[.slice (some ⟨w.heap.size, 0, none⟩) 3 3, .int .i64 4] (w.alloc (.cells #[.string ⟨#[97]⟩, .string ⟨#[98, 98]⟩, .string ⟨#[99, 99, 99]⟩] 9)) fun e w' => e = .returned (.tuple #[.string ⟨#[97, 32, 98, 98, 10, 99, 99, 99, 10]⟩, .int .i64 0]) ∧ Below w.heap.size w w' := by
  have hb : Below w.heap.size w (w.alloc (.cells #[.string ⟨#[97]⟩, .string ⟨#[98, 98]⟩, .string ⟨#[99, 99, 99]⟩] 9)) := (Below.refl _ _).alloc (Nat.le_refl _) _
  refine (Wrap_calls _ _ [⟨#[97]⟩, ⟨#[98, 98]⟩, ⟨#[99, 99, 99]⟩] 4 _ _ (w.alloc (.cells #[.string ⟨#[97]⟩, .string ⟨#[98, 98]⟩, .string ⟨#[99, 99, 99]⟩] 9)) (litS _ _ [⟨#[97]⟩, ⟨#[98, 98]⟩, ⟨#[99, 99, 99]⟩] _ rfl (by decide) (blk_new w _)) (by decide) (show wrapF ([⟨#[97]⟩, ⟨#[98, 98]⟩, ⟨#[99, 99, 99]⟩] : List ByteArray) 4 = some (⟨#[97, 32, 98, 98, 10, 99, 99, 99, 10]⟩, 0) by kernel_rfl) (hg.below hb)).mono ?_
  rintro e w' ⟨rfl, h⟩
  exact ⟨rfl, hb.trans (h.mono hb.size)⟩
theorem num0 (w : World) (hg : Laid w) : Calls Tryd.prog 13 #[.int .i64 12, .int .i64 1, .bool true] w fun e w' => e = .returned (.tuple #[.string ⟨#[49, 50, 46, 46, 46]⟩, .int .i64 0]) ∧ Below w.heap.size w w' :=
  Number_calls 12 1 true _ _ w (by kernel_rfl) hg
theorem eqA (w : World) (A : Option Addr) (c : Nat) (hc : 3 ≤ c) (hC : Kd.C Kd.string w A 3 [⟨#[101, 52]⟩, ⟨#[101, 53]⟩, ⟨#[78, 102, 51]⟩]) : Calls Tryd.prog 20 #[.slice A 3 c, .slice (some ⟨w.heap.size, 0, none⟩) 3 3] (w.alloc (.cells #[.string ⟨#[101, 52]⟩, .string ⟨#[101, 53]⟩, .string ⟨#[78, 102, 51]⟩] 9)) fun e w' => e = .returned (.bool true) ∧ Below w.heap.size w w' := by
  have hb : Below w.heap.size w (w.alloc (.cells #[.string ⟨#[101, 52]⟩, .string ⟨#[101, 53]⟩, .string ⟨#[78, 102, 51]⟩] 9)) := (Below.refl _ _).alloc (Nat.le_refl _) _
  refine (slices_Equal_string_string.calls 10 A c [⟨#[101, 52]⟩, ⟨#[101, 53]⟩, ⟨#[78, 102, 51]⟩] _ 3 [⟨#[101, 52]⟩, ⟨#[101, 53]⟩, ⟨#[78, 102, 51]⟩] true (w.alloc (.cells #[.string ⟨#[101, 52]⟩, .string ⟨#[101, 53]⟩, .string ⟨#[78, 102, 51]⟩] 9)) (Kd.C_below hC hb) hc (litS _ _ [⟨#[101, 52]⟩, ⟨#[101, 53]⟩, ⟨#[78, 102, 51]⟩] _ rfl (by decide) (blk_new w _)) (by decide) (by kernel_rfl)).mono ?_
  rintro e w' ⟨rfl, nd, rfl⟩
  exact ⟨rfl, belDrew hb nd⟩
theorem eqB (w : World) (A : Option Addr) (c : Nat) (hc : 2 ≤ c) (hC : Kd.C Kd.string w A 2 [⟨#[101, 52]⟩, ⟨#[101, 53]⟩]) : Calls Tryd.prog 20 #[.slice A 2 c, .slice (some ⟨w.heap.size, 0, none⟩) 2 2] (w.alloc (.cells #[.string ⟨#[101, 52]⟩, .string ⟨#[101, 53]⟩] 9)) fun e w' => e = .returned (.bool true) ∧ Below w.heap.size w w' := by
  have hb : Below w.heap.size w (w.alloc (.cells #[.string ⟨#[101, 52]⟩, .string ⟨#[101, 53]⟩] 9)) := (Below.refl _ _).alloc (Nat.le_refl _) _
  refine (slices_Equal_string_string.calls 10 A c [⟨#[101, 52]⟩, ⟨#[101, 53]⟩] _ 2 [⟨#[101, 52]⟩, ⟨#[101, 53]⟩] true (w.alloc (.cells #[.string ⟨#[101, 52]⟩, .string ⟨#[101, 53]⟩] 9)) (Kd.C_below hC hb) hc (litS _ _ [⟨#[101, 52]⟩, ⟨#[101, 53]⟩] _ rfl (by decide) (blk_new w _)) (by decide) (by kernel_rfl)).mono ?_
  rintro e w' ⟨rfl, nd, rfl⟩
  exact ⟨rfl, belDrew hb nd⟩
theorem eqT (w : World) (A : Option Addr) (c : Nat) (hc : 2 ≤ c) (hC : Kd.C k56 w A 2 [⟨⟨#[69, 118, 101, 110, 116]⟩, ⟨#[120]⟩⟩, ⟨⟨#[83, 105, 116, 101]⟩, ⟨#[121]⟩⟩]) : Calls Tryd.prog 21 #[.slice A 2 c, .slice (some ⟨w.heap.size, 0, none⟩) 2 2] (w.alloc (.cells #[.string ⟨#[69, 118, 101, 110, 116]⟩, .string ⟨#[120]⟩, .string ⟨#[83, 105, 116, 101]⟩, .string ⟨#[121]⟩] 56)) fun e w' => e = .returned (.bool true) ∧ Below w.heap.size w w' := by
  have hb : Below w.heap.size w (w.alloc (.cells #[.string ⟨#[69, 118, 101, 110, 116]⟩, .string ⟨#[120]⟩, .string ⟨#[83, 105, 116, 101]⟩, .string ⟨#[121]⟩] 56)) := (Below.refl _ _).alloc (Nat.le_refl _) _
  refine (api_Tag.calls 10 A c [⟨⟨#[69, 118, 101, 110, 116]⟩, ⟨#[120]⟩⟩, ⟨⟨#[83, 105, 116, 101]⟩, ⟨#[121]⟩⟩] _ 2 [⟨⟨#[69, 118, 101, 110, 116]⟩, ⟨#[120]⟩⟩, ⟨⟨#[83, 105, 116, 101]⟩, ⟨#[121]⟩⟩] true (w.alloc (.cells #[.string ⟨#[69, 118, 101, 110, 116]⟩, .string ⟨#[120]⟩, .string ⟨#[83, 105, 116, 101]⟩, .string ⟨#[121]⟩] 56)) (Kd.C_below hC hb) hc (litT _ _ [⟨⟨#[69, 118, 101, 110, 116]⟩, ⟨#[120]⟩⟩, ⟨⟨#[83, 105, 116, 101]⟩, ⟨#[121]⟩⟩] _ rfl (by decide) (blk_new w _)) (by decide) (by kernel_rfl)).mono ?_
  rintro e w' ⟨rfl, nd, rfl⟩
  exact ⟨rfl, belDrew hb nd⟩


set_option maxHeartbeats 8000000 in
set_option maxRecDepth 100000 in
theorem works_calls (W : World) (hg : Laid W) : Calls Tryd.prog 15 #[] W fun e w' => e = .returned (.bool true) ∧ Below W.heap.size W w' := by
  have HG := Lib.hid hg
  clear hg
  go_enter Tryd.func15, Tryd.ntmps15
  go_upto_region 2 with (first
    | (go_at_call 48; (with_reducible refine (sc0 W).mono ?_); rintro e w1 ⟨A1, c1, rfl, hc, hC, hb⟩; have HCC1 := Lib.hid hc; have HC1 := Lib.hid hC; have HB1 := Lib.hid hb; clear hc hC hb)
    | (go_at_call 10; (with_reducible refine (pa0 w1 A1 c1 HCC1.out HC1.out (HG.out.below HB1.out)).mono ?_); rintro e w2 ⟨A2, c2, rfl, hc, hC, hb⟩; have HCC2 := Lib.hid hc; have HC2 := Lib.hid hC; have HB2 := Lib.hid hb; clear hc hC hb)
    | ((with_reducible refine gate_dst (N := 1) rfl ?_); (try (refine gate_guard (by rfl) ?_; dsimp only)); refine box_event ?hg (N := 1) ?hd (cs := #[.slice none 0 0, .int .i64 0]) (t := 27) ?hr ?_; (case hd => rfl); (case hg => rfl); (case hr => first | (go_simp; done) | (go_simp; rfl)); intro q3 hq w3 hbox hb; have hz0 : w3.cell? ⟨q3, 0, none⟩ = some (.slice none 0 0) := (blk_cell hbox 0).trans rfl; have hz1 : w3.cell? ⟨q3, 1, none⟩ = some (.int .i64 0) := (blk_cell hbox 1).trans rfl; have hf0 := blk_frozen hbox 0; have hf1 := blk_frozen hbox 1; have HX3 := Lib.hid hbox; have HB3 := Lib.hid hb; have HQ3 := Lib.hid hq; clear hbox hb hq))
  obtain ⟨v1, hv1⟩ : ∃ v1, ((w3.setCell ⟨q3, 0, none⟩ (.slice A2 3 c2)).setCell ⟨q3, 1, none⟩ (.int .i64 0)) = v1 := ⟨_, rfl⟩
  have hq3 : w2.heap.size ≤ q3 := by rw [HQ3.out]; exact Nat.le_refl _
  have h2v : Below w2.heap.size w2 v1 := by rw [← hv1]; exact bel2 HB3.out hq3 _ _ _ _
  have hA : v1.heap[q3]? = some (.cells #[.slice A2 3 c2, .int .i64 0] 27 (0, 0)) := by rw [← hv1]; exact blk_put (blk_put HX3.out 0 _ rfl) 1 _ rfl
  have hCa := Kd.C_below HC2.out h2v
  have hbel : Below W.heap.size W v1 := (HB1.out.trans (HB2.out.mono HB1.out.size)).trans (h2v.mono (Nat.le_trans HB1.out.size HB2.out.size))
  rw [hv1]
  have HA := Lib.hid hA
  have HCA := Lib.hid hCa
  have HBV := Lib.hid hbel
  clear hv1 hq3 h2v hA hCa hbel hz0 hz1 hf0 hf1 HX3 HB3 HQ3 HC2 HB2 HC1 HCC1 HB1
  go_upto_region 3 with (first
    | (go_at_call 48; (with_reducible refine (sc1 v1).mono ?_); rintro e w4 ⟨A4, c4, rfl, hc, hC, hb⟩; have HCC4 := Lib.hid hc; have HC4 := Lib.hid hC; have HB4 := Lib.hid hb; clear hc hC hb)
    | (go_at_call 10; (with_reducible refine (pa1 w4 A4 c4 HCC4.out HC4.out (HG.out.below (HBV.out.trans (HB4.out.mono HBV.out.size)))).mono ?_); rintro e w5 ⟨A5, c5, rfl, hc, hC, hb⟩; have HCC5 := Lib.hid hc; have HC5 := Lib.hid hC; have HB5 := Lib.hid hb; clear hc hC hb)
    | ((with_reducible refine gate_dst (N := 4) rfl ?_); (try (refine gate_guard (by rfl) ?_; dsimp only)); refine box_event ?hg (N := 4) ?hd (cs := #[.slice none 0 0, .int .i64 0]) (t := 27) ?hr ?_; (case hd => rfl); (case hg => rfl); (case hr => first | (go_simp; done) | (go_simp; rfl)); intro q6 hq w6 hbox hb; have hz0 : w6.cell? ⟨q6, 0, none⟩ = some (.slice none 0 0) := (blk_cell hbox 0).trans rfl; have hz1 : w6.cell? ⟨q6, 1, none⟩ = some (.int .i64 0) := (blk_cell hbox 1).trans rfl; have hf0 := blk_frozen hbox 0; have hf1 := blk_frozen hbox 1; have HX6 := Lib.hid hbox; have HB6 := Lib.hid hb; have HQ6 := Lib.hid hq; clear hbox hb hq))
  obtain ⟨v2, hv2⟩ : ∃ v2, ((w6.setCell ⟨q6, 0, none⟩ (.slice A5 2 c5)).setCell ⟨q6, 1, none⟩ (.int .i64 2)) = v2 := ⟨_, rfl⟩
  have hq6 : w5.heap.size ≤ q6 := by rw [HQ6.out]; exact Nat.le_refl _
  have h5v : Below w5.heap.size w5 v2 := by rw [← hv2]; exact bel2 HB6.out hq6 _ _ _ _
  have h1v : Below v1.heap.size v1 v2 := (HB4.out.trans (HB5.out.mono HB4.out.size)).trans (h5v.mono (Nat.le_trans HB4.out.size HB5.out.size))
  have hws : WS W q3 q6 A2 c2 A5 c5 v2 := ⟨blk_below HA.out h1v, by rw [← hv2]; exact blk_put (blk_put HX6.out 0 _ rfl) 1 _ rfl, Kd.C_below HCA.out h1v, Kd.C_below HC5.out h5v, HBV.out.trans (h1v.mono HBV.out.size)⟩
  rw [hv2]
  have HWS := Lib.hid hws
  clear hv2 hq6 h5v h1v hws hz0 hz1 hf0 hf1 HX6 HB6 HQ6 HC5 HB5 HC4 HCC4 HB4 HA HCA HBV
  go_wp2
  obtain ⟨lb, hlb⟩ : ∃ lb, v2.heap.size = lb := ⟨_, rfl⟩
  obtain ⟨x0, hx0⟩ : ∃ x0, v2.alloc (Obj.cells #[.string ⟨#[101, 52]⟩, .string ⟨#[46, 32, 101, 52, 32, 42]⟩, .string ⟨#[101, 52, 32, 40, 32, 42]⟩, .string ⟨#[101, 52, 32, 41, 32, 42]⟩, .string ⟨#[101, 52, 32, 91, 32, 42]⟩] 9) = x0 := ⟨_, rfl⟩
  have hL : x0.heap[lb]? = some (.cells #[.string ⟨#[101, 52]⟩, .string ⟨#[46, 32, 101, 52, 32, 42]⟩, .string ⟨#[101, 52, 32, 40, 32, 42]⟩, .string ⟨#[101, 52, 32, 41, 32, 42]⟩, .string ⟨#[101, 52, 32, 91, 32, 42]⟩] 9 (0, 0)) := by rw [← hx0, ← hlb]; exact blk_new _ _
  have hws : WS W q3 q6 A2 c2 A5 c5 x0 := by rw [← hx0]; exact HWS.out.below ((Below.refl _ _).alloc (Nat.le_refl _) _)
  rw [hx0, hlb]
  clear HWS
  have HWS := Lib.hid hws
  have HL := Lib.hid hL
  clear hws hL hx0 hlb
  go_loopw [0, 36] (fun v0 v36 x => ∃ r : Nat, v0 = .bool false ∧ v36 = .int .i64 (r : Int) ∧ (r = 0 ∨ r = 1 ∨ r = 2 ∨ r = 3 ∨ r = 4 ∨ r = 5) ∧ WS W q3 q6 A2 c2 A5 c5 x ∧ x.heap[lb]? = some (.cells #[.string ⟨#[101, 52]⟩, .string ⟨#[46, 32, 101, 52, 32, 42]⟩, .string ⟨#[101, 52, 32, 40, 32, 42]⟩, .string ⟨#[101, 52, 32, 41, 32, 42]⟩, .string ⟨#[101, 52, 32, 91, 32, 42]⟩] 9 (0, 0))) (fun _ v36 _ => 5 - (Go.RowKit.intOf v36).toNat)
  case atStart => exact ⟨0, rfl, rfl, .inl rfl, HWS.out, HL.out⟩
  case round =>
    clear HWS HL
    obtain ⟨r, rfl, rfl, hr, hws, hL⟩ := hrel
    have HWS := Lib.hid hws
    have HL := Lib.hid hL
    clear hws hL
    rcases hr with rfl | rfl | rfl | rfl | rfl | rfl
    · have hl : wr.cell? ⟨lb, 0, none⟩ = some (.string ⟨#[101, 52]⟩) := (blk_cell HL.out 0).trans rfl
      go_wp2_with (first
        | (go_at_call 48; (with_reducible refine (sc2 wr).mono ?_); rintro e kw1 ⟨Ak1, ck1, rfl, hc, hC, hb⟩; have HCCk1 := Lib.hid hc; have HCk1 := Lib.hid hC; have HBk1 := Lib.hid hb; clear hc hC hb)
        | (go_at_call 10; (with_reducible refine (pa2 kw1 Ak1 ck1 HCCk1.out HCk1.out (HG.out.below (HWS.out.bel.trans (HBk1.out.mono HWS.out.bel.size)))).mono ?_); rintro e kw2 ⟨Ak2, ck2, rfl, hc, hC, hb⟩; have HCCk2 := Lib.hid hc; have HCk2 := Lib.hid hC; have HBk2 := Lib.hid hb; clear hc hC hb)
        | ((with_reducible refine gate_dst (N := 9) rfl ?_); (try (refine gate_guard (by rfl) ?_; dsimp only)); refine box_event ?hg (N := 9) ?hd (cs := #[.slice none 0 0, .int .i64 0]) (t := 27) ?hr ?_; (case hd => rfl); (case hg => rfl); (case hr => first | (go_simp; done) | (go_simp; rfl)); intro qk3 hq kw3 hbox hb; have hz0 : kw3.cell? ⟨qk3, 0, none⟩ = some (.slice none 0 0) := (blk_cell hbox 0).trans rfl; have hz1 : kw3.cell? ⟨qk3, 1, none⟩ = some (.int .i64 0) := (blk_cell hbox 1).trans rfl; have hf0 := blk_frozen hbox 0; have hf1 := blk_frozen hbox 1; have HXk3 := Lib.hid hbox; have HBk3 := Lib.hid hb; have HQk3 := Lib.hid hq; clear hbox hb hq))
      have hqk : kw2.heap.size ≤ qk3 := by rw [HQk3.out]; exact Nat.le_refl _
      have h2v : Below wr.heap.size wr _ := (HBk1.out.trans (HBk2.out.mono HBk1.out.size)).trans ((bel2 HBk3.out hqk 0 1 (.slice Ak2 0 ck2) (.int .i64 0)).mono (Nat.le_trans HBk1.out.size HBk2.out.size))
      exact ⟨⟨1, rfl, rfl, by decide, HWS.out.below h2v, blk_below HL.out h2v⟩, by show 5 - 1 < 5 - 0; decide⟩
    · have hl : wr.cell? ⟨lb, 1, none⟩ = some (.string ⟨#[46, 32, 101, 52, 32, 42]⟩) := (blk_cell HL.out 1).trans rfl
      go_wp2_with (first
        | (go_at_call 48; (with_reducible refine (sc3 wr).mono ?_); rintro e kw1 ⟨Ak1, ck1, rfl, hc, hC, hb⟩; have HCCk1 := Lib.hid hc; have HCk1 := Lib.hid hC; have HBk1 := Lib.hid hb; clear hc hC hb)
        | (go_at_call 10; (with_reducible refine (pa3 kw1 Ak1 ck1 HCCk1.out HCk1.out (HG.out.below (HWS.out.bel.trans (HBk1.out.mono HWS.out.bel.size)))).mono ?_); rintro e kw2 ⟨Ak2, ck2, rfl, hc, hC, hb⟩; have HCCk2 := Lib.hid hc; have HCk2 := Lib.hid hC; have HBk2 := Lib.hid hb; clear hc hC hb)
        | ((with_reducible refine gate_dst (N := 9) rfl ?_); (try (refine gate_guard (by rfl) ?_; dsimp only)); refine box_event ?hg (N := 9) ?hd (cs := #[.slice none 0 0, .int .i64 0]) (t := 27) ?hr ?_; (case hd => rfl); (case hg => rfl); (case hr => first | (go_simp; done) | (go_simp; rfl)); intro qk3 hq kw3 hbox hb; have hz0 : kw3.cell? ⟨qk3, 0, none⟩ = some (.slice none 0 0) := (blk_cell hbox 0).trans rfl; have hz1 : kw3.cell? ⟨qk3, 1, none⟩ = some (.int .i64 0) := (blk_cell hbox 1).trans rfl; have hf0 := blk_frozen hbox 0; have hf1 := blk_frozen hbox 1; have HXk3 := Lib.hid hbox; have HBk3 := Lib.hid hb; have HQk3 := Lib.hid hq; clear hbox hb hq))
      have hqk : kw2.heap.size ≤ qk3 := by rw [HQk3.out]; exact Nat.le_refl _
      have h2v : Below wr.heap.size wr _ := (HBk1.out.trans (HBk2.out.mono HBk1.out.size)).trans ((bel2 HBk3.out hqk 0 1 (.slice Ak2 0 ck2) (.int .i64 0)).mono (Nat.le_trans HBk1.out.size HBk2.out.size))
      exact ⟨⟨2, rfl, rfl, by decide, HWS.out.below h2v, blk_below HL.out h2v⟩, by show 5 - 2 < 5 - 1; decide⟩
    · have hl : wr.cell? ⟨lb, 2, none⟩ = some (.string ⟨#[101, 52, 32, 40, 32, 42]⟩) := (blk_cell HL.out 2).trans rfl
      go_wp2_with (first
        | (go_at_call 48; (with_reducible refine (sc4 wr).mono ?_); rintro e kw1 ⟨Ak1, ck1, rfl, hc, hC, hb⟩; have HCCk1 := Lib.hid hc; have HCk1 := Lib.hid hC; have HBk1 := Lib.hid hb; clear hc hC hb)
        | (go_at_call 10; (with_reducible refine (pa4 kw1 Ak1 ck1 HCCk1.out HCk1.out (HG.out.below (HWS.out.bel.trans (HBk1.out.mono HWS.out.bel.size)))).mono ?_); rintro e kw2 ⟨Ak2, ck2, rfl, hc, hC, hb⟩; have HCCk2 := Lib.hid hc; have HCk2 := Lib.hid hC; have HBk2 := Lib.hid hb; clear hc hC hb)
        | ((with_reducible refine gate_dst (N := 9) rfl ?_); (try (refine gate_guard (by rfl) ?_; dsimp only)); refine box_event ?hg (N := 9) ?hd (cs := #[.slice none 0 0, .int .i64 0]) (t := 27) ?hr ?_; (case hd => rfl); (case hg => rfl); (case hr => first | (go_simp; done) | (go_simp; rfl)); intro qk3 hq kw3 hbox hb; have hz0 : kw3.cell? ⟨qk3, 0, none⟩ = some (.slice none 0 0) := (blk_cell hbox 0).trans rfl; have hz1 : kw3.cell? ⟨qk3, 1, none⟩ = some (.int .i64 0) := (blk_cell hbox 1).trans rfl; have hf0 := blk_frozen hbox 0; have hf1 := blk_frozen hbox 1; have HXk3 := Lib.hid hbox; have HBk3 := Lib.hid hb; have HQk3 := Lib.hid hq; clear hbox hb hq))
      have hqk : kw2.heap.size ≤ qk3 := by rw [HQk3.out]; exact Nat.le_refl _
      have h2v : Below wr.heap.size wr _ := (HBk1.out.trans (HBk2.out.mono HBk1.out.size)).trans ((bel2 HBk3.out hqk 0 1 (.slice Ak2 0 ck2) (.int .i64 0)).mono (Nat.le_trans HBk1.out.size HBk2.out.size))
      exact ⟨⟨3, rfl, rfl, by decide, HWS.out.below h2v, blk_below HL.out h2v⟩, by show 5 - 3 < 5 - 2; decide⟩
    · have hl : wr.cell? ⟨lb, 3, none⟩ = some (.string ⟨#[101, 52, 32, 41, 32, 42]⟩) := (blk_cell HL.out 3).trans rfl
      go_wp2_with (first
        | (go_at_call 48; (with_reducible refine (sc5 wr).mono ?_); rintro e kw1 ⟨Ak1, ck1, rfl, hc, hC, hb⟩; have HCCk1 := Lib.hid hc; have HCk1 := Lib.hid hC; have HBk1 := Lib.hid hb; clear hc hC hb)
        | (go_at_call 10; (with_reducible refine (pa5 kw1 Ak1 ck1 HCCk1.out HCk1.out (HG.out.below (HWS.out.bel.trans (HBk1.out.mono HWS.out.bel.size)))).mono ?_); rintro e kw2 ⟨Ak2, ck2, rfl, hc, hC, hb⟩; have HCCk2 := Lib.hid hc; have HCk2 := Lib.hid hC; have HBk2 := Lib.hid hb; clear hc hC hb)
        | ((with_reducible refine gate_dst (N := 9) rfl ?_); (try (refine gate_guard (by rfl) ?_; dsimp only)); refine box_event ?hg (N := 9) ?hd (cs := #[.slice none 0 0, .int .i64 0]) (t := 27) ?hr ?_; (case hd => rfl); (case hg => rfl); (case hr => first | (go_simp; done) | (go_simp; rfl)); intro qk3 hq kw3 hbox hb; have hz0 : kw3.cell? ⟨qk3, 0, none⟩ = some (.slice none 0 0) := (blk_cell hbox 0).trans rfl; have hz1 : kw3.cell? ⟨qk3, 1, none⟩ = some (.int .i64 0) := (blk_cell hbox 1).trans rfl; have hf0 := blk_frozen hbox 0; have hf1 := blk_frozen hbox 1; have HXk3 := Lib.hid hbox; have HBk3 := Lib.hid hb; have HQk3 := Lib.hid hq; clear hbox hb hq))
      have hqk : kw2.heap.size ≤ qk3 := by rw [HQk3.out]; exact Nat.le_refl _
      have h2v : Below wr.heap.size wr _ := (HBk1.out.trans (HBk2.out.mono HBk1.out.size)).trans ((bel2 HBk3.out hqk 0 1 (.slice Ak2 0 ck2) (.int .i64 0)).mono (Nat.le_trans HBk1.out.size HBk2.out.size))
      exact ⟨⟨4, rfl, rfl, by decide, HWS.out.below h2v, blk_below HL.out h2v⟩, by show 5 - 4 < 5 - 3; decide⟩
    · have hl : wr.cell? ⟨lb, 4, none⟩ = some (.string ⟨#[101, 52, 32, 91, 32, 42]⟩) := (blk_cell HL.out 4).trans rfl
      go_wp2_with (first
        | (go_at_call 48; (with_reducible refine (sc6 wr).mono ?_); rintro e kw1 ⟨Ak1, ck1, rfl, hc, hC, hb⟩; have HCCk1 := Lib.hid hc; have HCk1 := Lib.hid hC; have HBk1 := Lib.hid hb; clear hc hC hb)
        | (go_at_call 10; (with_reducible refine (pa6 kw1 Ak1 ck1 HCCk1.out HCk1.out (HG.out.below (HWS.out.bel.trans (HBk1.out.mono HWS.out.bel.size)))).mono ?_); rintro e kw2 ⟨Ak2, ck2, rfl, hc, hC, hb⟩; have HCCk2 := Lib.hid hc; have HCk2 := Lib.hid hC; have HBk2 := Lib.hid hb; clear hc hC hb)
        | ((with_reducible refine gate_dst (N := 9) rfl ?_); (try (refine gate_guard (by rfl) ?_; dsimp only)); refine box_event ?hg (N := 9) ?hd (cs := #[.slice none 0 0, .int .i64 0]) (t := 27) ?hr ?_; (case hd => rfl); (case hg => rfl); (case hr => first | (go_simp; done) | (go_simp; rfl)); intro qk3 hq kw3 hbox hb; have hz0 : kw3.cell? ⟨qk3, 0, none⟩ = some (.slice none 0 0) := (blk_cell hbox 0).trans rfl; have hz1 : kw3.cell? ⟨qk3, 1, none⟩ = some (.int .i64 0) := (blk_cell hbox 1).trans rfl; have hf0 := blk_frozen hbox 0; have hf1 := blk_frozen hbox 1; have HXk3 := Lib.hid hbox; have HBk3 := Lib.hid hb; have HQk3 := Lib.hid hq; clear hbox hb hq))
      have hqk : kw2.heap.size ≤ qk3 := by rw [HQk3.out]; exact Nat.le_refl _
      have h2v : Below wr.heap.size wr _ := (HBk1.out.trans (HBk2.out.mono HBk1.out.size)).trans ((bel2 HBk3.out hqk 0 1 (.slice Ak2 0 ck2) (.int .i64 0)).mono (Nat.le_trans HBk1.out.size HBk2.out.size))
      exact ⟨⟨5, rfl, rfl, by decide, HWS.out.below h2v, blk_below HL.out h2v⟩, by show 5 - 5 < 5 - 4; decide⟩
    · go_upto_region 11 with (first
        | (go_at_call 48; (with_reducible refine (sc7 wr).mono ?_); rintro e w11 ⟨A11, c11, rfl, hc, hC, hb⟩; have HCC11 := Lib.hid hc; have HC11 := Lib.hid hC; have HB11 := Lib.hid hb; clear hc hC hb)
        | (go_at_call 11; (with_reducible refine (ta7 w11 A11 c11 HCC11.out HC11.out).mono ?_); rintro e w12 ⟨A12, c12, rfl, hc, hC, hb⟩; have HCC12 := Lib.hid hc; have HC12 := Lib.hid hC; have HB12 := Lib.hid hb; clear hc hC hb))
      obtain ⟨y0, hy0⟩ : ∃ y0, w12 = y0 := ⟨_, rfl⟩
      have hws0 := HWS.out.below (HB11.out.trans (HB12.out.mono HB11.out.size))
      rw [hy0] at hws0
      rw [hy0]
      have hc12 := HC12.out
      rw [hy0] at hc12
      have HW0 := Lib.hid hws0
      have HT0 := Lib.hid hc12
      clear hws0 hc12 hy0 HWS HL HB11 HB12 HC12 HC11 HCC11
      go_upto_region 13 with (first
        | (go_at_call 48; (with_reducible refine (sc8 y0).mono ?_); rintro e w13 ⟨A13, c13, rfl, hc, hC, hb⟩; have HCC13 := Lib.hid hc; have HC13 := Lib.hid hC; have HB13 := Lib.hid hb; clear hc hC hb)
        | (go_at_call 11; (with_reducible refine (ta8 w13 A13 c13 HCC13.out HC13.out).mono ?_); rintro e w14 ⟨A14, c14, rfl, hc, hC, hb⟩; have HCC14 := Lib.hid hc; have HC14 := Lib.hid hC; have HB14 := Lib.hid hb; clear hc hC hb)
        | (go_at_call 12; (with_reducible refine (wrap0 w14 (HG.out.below ((HW0.out.bel.trans (HB13.out.mono HW0.out.bel.size)).trans (HB14.out.mono (Nat.le_trans HW0.out.bel.size HB13.out.size))))).mono ?_); rintro e w15 ⟨rfl, hb⟩; have HB15 := Lib.hid hb; clear hb))
      have h0b := (HB13.out.trans (HB14.out.mono HB13.out.size)).trans (HB15.out.mono (Nat.le_trans HB13.out.size HB14.out.size))
      have HW1 := Lib.hid (HW0.out.below h0b)
      have HT1 := Lib.hid (Kd.C_below HT0.out h0b)
      clear h0b HW0 HT0 HB13 HB14 HB15 HC13 HC14 HCC13 HCC14
      go_wp2_with (first
        | (go_at_call 13; (with_reducible refine (num0 w15 (HG.out.below HW1.out.bel)).mono ?_); rintro e w16 ⟨rfl, hb⟩; have HW2 := Lib.hid (HW1.out.below hb); have HT2 := Lib.hid (Kd.C_below HT1.out hb); clear hb HW1 HT1; have ha0 : w16.cell? ⟨q3, 0, none⟩ = some (.slice A2 3 c2) := (blk_cell HW2.out.a 0).trans rfl)
        | (go_at_call 20; (with_reducible refine (eqA w16 A2 c2 HCC2.out HW2.out.Ca).mono ?_); rintro e w17 ⟨rfl, hb⟩; have HW3 := Lib.hid (HW2.out.below hb); have HT3 := Lib.hid (Kd.C_below HT2.out hb); clear hb HW2 HT2 ha0; have ha1 : w17.cell? ⟨q3, 1, none⟩ = some (.int .i64 0) := (blk_cell HW3.out.a 1).trans rfl; have hb0 : w17.cell? ⟨q6, 0, none⟩ = some (.slice A5 2 c5) := (blk_cell HW3.out.b 0).trans rfl)
        | (go_at_call 20; (with_reducible refine (eqB w17 A5 c5 HCC5.out HW3.out.Cb).mono ?_); rintro e w18 ⟨rfl, hb⟩; have HW4 := Lib.hid (HW3.out.below hb); have HT4 := Lib.hid (Kd.C_below HT3.out hb); clear hb HW3 HT3 ha1 hb0; have hb1 : w18.cell? ⟨q6, 1, none⟩ = some (.int .i64 2) := (blk_cell HW4.out.b 1).trans rfl)
        | (go_at_call 21; (with_reducible refine (eqT w18 A12 c12 HCC12.out HT4.out).mono ?_); rintro e w19 ⟨rfl, hb⟩; have HW5 := Lib.hid (HW4.out.below hb); clear hb HW4 HT4 hb1))
      go_ret
      exact ⟨rfl, HW5.out.bel⟩
end Go.Proofs.YtlpoglkddknedaaDoor.H

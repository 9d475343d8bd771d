/-
  DERIVED. GIVEN WITH THE SEED: THE CARDS: each row of YtlpoglkddknedaaDoorRows.lean that lists a variable, with what it lists TIED to the program's text (the seventh form; the later family's looks); each row that meets fmt, with fmt's text TOLD by the authors' own Lean function (tested against real Go, not proved from fmt's source: count such statements apart). THE CARD IS WHAT COUNTS. Prove the row's statement (the work); the ties are given (YtlpoglkddknedaaDoorTie.lean); close each card by the builder's one call (the guide's Derived/Test/ToyasCard.lean, 'card_holds'). Laid BY PROGRAM, IN A SANDBOX (cutbox-door.mjs). By AI agents, Wed Nov 11 2026. No macro, syntax, notation, axiom, sorry.
-/
import Derived.Test.YtlpoglkddknedaaDoorRows
import GoSem.ClaimSeven
namespace Go.Proofs.YtlpoglkddknedaaDoor
namespace Rows

/-- THE TIED CARD OF 'tempolaw25.MovetextRefuses'. -/
def movetextRefusesCard : Claim7 := { stood := { row := movetextRefusesRow, standIns := [], harness := (true, "938fbf7507c023230ff7923b084cc5d74fef5a5353f6ebde9efe5741a86a4e65"), looks := false }, kinds := [], alts := [], laidByText := true, laidKinds := [.data, .data, .data, .data, .data, .pinned], laidTests := true, laidLooks := .later }
def MovetextRefusesCardSaid : Prop := Claim7.holds Tryd.pinned (.plain (OpenSpec.ofChange movetextRefusesSpec)) movetextRefusesCard

/-- THE TIED CARD OF 'tempolaw25.MovetextReads'. -/
def movetextReadsCard : Claim7 := { stood := { row := movetextReadsRow, standIns := [], harness := (true, "938fbf7507c023230ff7923b084cc5d74fef5a5353f6ebde9efe5741a86a4e65"), looks := false }, kinds := [], alts := [], laidByText := true, laidKinds := [.data, .data, .data, .data, .data, .pinned], laidTests := true, laidLooks := .later }
def MovetextReadsCardSaid : Prop := Claim7.holds Tryd.pinned (.plain (OpenSpec.ofChange movetextReadsSpec)) movetextReadsCard

/-- THE TIED CARD OF 'tempolaw25.MovetextWrites'. -/
def movetextWritesCard : Claim7 := { stood := { row := movetextWritesRow, standIns := [], harness := (true, "938fbf7507c023230ff7923b084cc5d74fef5a5353f6ebde9efe5741a86a4e65"), looks := false }, kinds := [], alts := [], laidByText := true, laidKinds := [.data, .data, .data, .data, .data, .pinned], laidTests := true, laidLooks := .later }
def MovetextWritesCardSaid : Prop := Claim7.holds Tryd.pinned (.plain (OpenSpec.ofChange movetextWritesSpec)) movetextWritesCard

/-- THE TIED CARD OF 'tempolaw25.MovetextLong'. -/
def movetextLongCard : Claim7 := { stood := { row := movetextLongRow, standIns := [], harness := (true, "938fbf7507c023230ff7923b084cc5d74fef5a5353f6ebde9efe5741a86a4e65"), looks := false }, kinds := [], alts := [], laidByText := true, laidKinds := [.data, .data, .data, .data, .data, .pinned], laidTests := true, laidLooks := .later }
def MovetextLongCardSaid : Prop := Claim7.holds Tryd.pinned (.plain (OpenSpec.ofChange movetextLongSpec)) movetextLongCard

/-- THE TIED CARD OF 'tempolaw25.MovetextPasses'. -/
def movetextPassesCard : Claim7 := { stood := { row := movetextPassesRow, standIns := [], harness := (true, "938fbf7507c023230ff7923b084cc5d74fef5a5353f6ebde9efe5741a86a4e65"), looks := false }, kinds := [], alts := [], laidByText := true, laidKinds := [.data, .data, .data, .data, .data, .pinned], laidTests := true, laidLooks := .later }
def MovetextPassesCardSaid : Prop := Claim7.holds Tryd.pinned (.plain (OpenSpec.ofChange movetextPassesSpec)) movetextPassesCard

/-- THE TIED CARD OF 'tempolaw25.MovetextTags'. -/
def movetextTagsCard : Claim7 := { stood := { row := movetextTagsRow, standIns := [], harness := (true, "938fbf7507c023230ff7923b084cc5d74fef5a5353f6ebde9efe5741a86a4e65"), looks := false }, kinds := [], alts := [], laidByText := true, laidKinds := [.data, .data, .data, .data, .data, .pinned], laidTests := true, laidLooks := .later }
def MovetextTagsCardSaid : Prop := Claim7.holds Tryd.pinned (.plain (OpenSpec.ofChange movetextTagsSpec)) movetextTagsCard

/-- THE TIED CARD OF 'tempolaw25.MovetextLines'. -/
def movetextLinesCard : Claim7 := { stood := { row := movetextLinesRow, standIns := [], harness := (true, "938fbf7507c023230ff7923b084cc5d74fef5a5353f6ebde9efe5741a86a4e65"), looks := false }, kinds := [], alts := [], laidByText := true, laidKinds := [.data, .data, .data, .data, .listed, .data, .data, .pinned], laidTests := true, laidLooks := .later }
def MovetextLinesCardSaid : Prop := Claim7.holds Tryd.pinned (.plain (OpenSpec.ofChange movetextLinesSpec)) movetextLinesCard

/-- THE SECOND FORM's CARD OF 'tempolaw25.MovetextRefuses'. -/
def movetextRefusesUptoCard : Claim7 := { stood := { row := movetextRefusesUptoRow, standIns := [], harness := (true, "938fbf7507c023230ff7923b084cc5d74fef5a5353f6ebde9efe5741a86a4e65"), looks := false }, kinds := [], alts := [], laidByText := true, laidKinds := [.data, .data, .data, .data, .data, .pinned], laidTests := true, laidLooks := .later }
def MovetextRefusesUptoCardSaid : Prop := Claim7.holds Tryd.pinned (.plain (OpenSpec.upto movetextRefusesSpec)) movetextRefusesUptoCard

/-- THE SECOND FORM's CARD OF 'tempolaw25.MovetextReads'. -/
def movetextReadsUptoCard : Claim7 := { stood := { row := movetextReadsUptoRow, standIns := [], harness := (true, "938fbf7507c023230ff7923b084cc5d74fef5a5353f6ebde9efe5741a86a4e65"), looks := false }, kinds := [], alts := [], laidByText := true, laidKinds := [.data, .data, .data, .data, .data, .pinned], laidTests := true, laidLooks := .later }
def MovetextReadsUptoCardSaid : Prop := Claim7.holds Tryd.pinned (.plain (OpenSpec.upto movetextReadsSpec)) movetextReadsUptoCard

/-- THE SECOND FORM's CARD OF 'tempolaw25.MovetextWrites'. -/
def movetextWritesUptoCard : Claim7 := { stood := { row := movetextWritesUptoRow, standIns := [], harness := (true, "938fbf7507c023230ff7923b084cc5d74fef5a5353f6ebde9efe5741a86a4e65"), looks := false }, kinds := [], alts := [], laidByText := true, laidKinds := [.data, .data, .data, .data, .data, .pinned], laidTests := true, laidLooks := .later }
def MovetextWritesUptoCardSaid : Prop := Claim7.holds Tryd.pinned (.plain (OpenSpec.upto movetextWritesSpec)) movetextWritesUptoCard

/-- THE SECOND FORM's CARD OF 'tempolaw25.MovetextLong'. -/
def movetextLongUptoCard : Claim7 := { stood := { row := movetextLongUptoRow, standIns := [], harness := (true, "938fbf7507c023230ff7923b084cc5d74fef5a5353f6ebde9efe5741a86a4e65"), looks := false }, kinds := [], alts := [], laidByText := true, laidKinds := [.data, .data, .data, .data, .data, .pinned], laidTests := true, laidLooks := .later }
def MovetextLongUptoCardSaid : Prop := Claim7.holds Tryd.pinned (.plain (OpenSpec.upto movetextLongSpec)) movetextLongUptoCard

/-- THE SECOND FORM's CARD OF 'tempolaw25.MovetextPasses'. -/
def movetextPassesUptoCard : Claim7 := { stood := { row := movetextPassesUptoRow, standIns := [], harness := (true, "938fbf7507c023230ff7923b084cc5d74fef5a5353f6ebde9efe5741a86a4e65"), looks := false }, kinds := [], alts := [], laidByText := true, laidKinds := [.data, .data, .data, .data, .data, .pinned], laidTests := true, laidLooks := .later }
def MovetextPassesUptoCardSaid : Prop := Claim7.holds Tryd.pinned (.plain (OpenSpec.upto movetextPassesSpec)) movetextPassesUptoCard

/-- THE SECOND FORM's CARD OF 'tempolaw25.MovetextTags'. -/
def movetextTagsUptoCard : Claim7 := { stood := { row := movetextTagsUptoRow, standIns := [], harness := (true, "938fbf7507c023230ff7923b084cc5d74fef5a5353f6ebde9efe5741a86a4e65"), looks := false }, kinds := [], alts := [], laidByText := true, laidKinds := [.data, .data, .data, .data, .data, .pinned], laidTests := true, laidLooks := .later }
def MovetextTagsUptoCardSaid : Prop := Claim7.holds Tryd.pinned (.plain (OpenSpec.upto movetextTagsSpec)) movetextTagsUptoCard

/-- THE SECOND FORM's CARD OF 'tempolaw25.MovetextLines'. -/
def movetextLinesUptoCard : Claim7 := { stood := { row := movetextLinesUptoRow, standIns := [], harness := (true, "938fbf7507c023230ff7923b084cc5d74fef5a5353f6ebde9efe5741a86a4e65"), looks := false }, kinds := [], alts := [], laidByText := true, laidKinds := [.data, .data, .data, .data, .listed, .data, .data, .pinned], laidTests := true, laidLooks := .later }
def MovetextLinesUptoCardSaid : Prop := Claim7.holds Tryd.pinned (.plain (OpenSpec.upto movetextLinesSpec)) movetextLinesUptoCard
end Rows
end Go.Proofs.YtlpoglkddknedaaDoor

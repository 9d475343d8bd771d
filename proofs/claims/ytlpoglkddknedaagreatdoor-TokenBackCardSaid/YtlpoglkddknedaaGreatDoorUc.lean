/- TokenBack at whatever pieces: it answers true. Conditions: the pieces' numbers are bytes, no list is longer than the rows allow. -/
import Derived.Test.YtlpoglkddknedaaGreatDoorUb
import Derived.Test.YtlpoglkddknedaaGreatDoorPz
namespace Go.Proofs.YtlpoglkddknedaaGreatDoor.R
open Go.RowKit Go.Lib Go.Proofs.YtlpoglkddknedaaGreatDoor.T Go.Proofs.YtlpoglkddknedaaGreatDoor.H
theorem back_true (W : World) (A : Option Addr) (c : Nat) (P : List Pc) (hP : PiecesAt W A P) (hc : P.length ≤ c) (hok : ∀ p ∈ P, p.ok) (mm : Int) (hmm : W.cell? ⟨0, 0, none⟩ = some (.int .i64 mm)) :
    Calls Tryz.prog 3 #[.slice A P.length c] W fun e w' => e = .returned (.bool true) ∧ Below W.heap.size W w' := by
  obtain ⟨h1, h2⟩ := Go.Proofs.YtlpoglkddknedaaGreatDoor.P.scan_pieces P (fun p hp => (hok p hp).2.1.1)
  exact back_call W A c P hP hc hok (fun p _ => Nat.le_trans (Go.Proofs.YtlpoglkddknedaaGreatDoor.P.piece_size p) (by omega)) (fun p _ o r => Nat.le_trans (Go.Proofs.YtlpoglkddknedaaGreatDoor.P.comText_size p.B o r) (by omega)) mm hmm h1 h2
end Go.Proofs.YtlpoglkddknedaaGreatDoor.R

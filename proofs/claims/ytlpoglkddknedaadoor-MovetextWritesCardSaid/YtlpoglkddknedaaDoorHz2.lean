/- A slice of strings that came in, read, with its weight: each string is no longer than what may be reached. Conditions: the law's own reading and its weights. -/
import Derived.Test.YtlpoglkddknedaaDoorHz
import Derived.SizedLaws
namespace Go.Proofs.YtlpoglkddknedaaDoor.H
open Go.RowKit Go.Deep Go.ChangeShapes Go.WideShapes Go.Proofs.YtlpoglkddknedaaDoor.T Go.Proofs.YtlpoglkddknedaaDoorW.PrintWords Go.Proofs.YtlpoglkddknedaaDoorW.PrintLast
set_option linter.unusedVariables false
set_option linter.unusedSimpArgs false
theorem weightsAll_mem {H : Type} {P : Program} {e : TypeId} {n : Nat} {d : DataW H} (hn : n ∈ d.weights P e) : ∀ {l : List (DataW H)}, d ∈ l → n ∈ DataW.weightsAll P e l
  | x :: r, h => by
    rw [DataW.weightsAll, List.mem_append]
    rcases List.mem_cons.1 h with rfl | h
    · exact .inl hn
    · exact .inr (weightsAll_mem hn h)
section
variable {H : Type} {enc : TypeId × Value → H} {W : World} {b0 : Nat}
theorem sized_words {A : Option Addr} {len cap : Nat} {l : List ByteArray} (hC : Kd.C Kd.string W A len l) {d : DataW H} {ps : List MemPlace} {ts : List TypeId} {ds : List (DataW H)} {j : Nat}
    (hsz : (DataW.weightsEach Tryd.prog ts ds).all (· ≤ reachBytes) = true) (ht : ts[j]? = some 25) (hd : ds[j]? = some d)
    (h : DataW.Trod enc Tryd.prog W 0 (fun _ => true) true 25 (.slice A len cap) d ps) : ∀ t ∈ l, t.size ≤ 140737488351232 := by
  intro t htl
  obtain ⟨fuel, hf⟩ := h
  have hf' : DataW.trod enc Tryd.prog W 0 (fun _ => true) true fuel 25 [.slice A len cap] = some (d, ps) := hf
  obtain ⟨rfl, hlen, hcells⟩ := hC
  obtain ⟨i, hi, rfl⟩ := List.getElem_of_mem htl
  obtain ⟨a, rfl, hcell⟩ := hcells (by omega)
  obtain ⟨c, hcl, hK, hc⟩ := hcell i l[i] (List.getElem?_eq_getElem hi)
  rcases open_strs Tryd.underlying25 Tryd.underlying9 cells9 hf' with ⟨hcs, _⟩ | ⟨a', len', cap', m, Sx, hcs, _, hl, hm, hmm, hx, hSx⟩
  · injection hcs with h1 _
    injection h1 with h1 h2 h3
    cases h1
  · injection hcs with h1 _
    injection h1 with h1 h2 h3
    cases h1
    subst h2 h3
    simp only [if_true] at hmm
    obtain ⟨hx1, hx2⟩ := Prod.mk.inj hx
    have hc0 : c = [.string l[i]] := hK
    have h0 := hc 0 (.string l[i]) (by rw [hc0]; rfl)
    have h1 := (hSx i (by omega)).1
    change W.cell? (a.add (i * 1 + 0)) = _ at h0
    rw [show i * 1 + 0 = i by omega] at h0
    rw [h1] at h0
    have hS : Sx i = l[i] := by injection h0 with h0; injection h0
    subst hx1
    have hmem : l[i].data.toList.length ∈ DataW.weightsEach Tryd.prog ts ds := by
      refine DataW.weights_mem_each ht hd _ ?_
      simp only [DataW.weights, Tryd.underlying25, List.mem_cons, List.mem_append]
      right; left
      refine weightsAll_mem (d := .lit (.string (Sx i).data.toList)) ?_ (List.mem_map.2 ⟨i, List.mem_range.2 (by omega), rfl⟩)
      rw [hS]
      simp [DataW.weights]
    have := List.all_eq_true.1 hsz _ hmem
    have h2 : l[i].data.toList.length ≤ reachBytes := by simpa using this
    rw [Array.length_toList] at h2
    exact h2
end
end Go.Proofs.YtlpoglkddknedaaDoor.H

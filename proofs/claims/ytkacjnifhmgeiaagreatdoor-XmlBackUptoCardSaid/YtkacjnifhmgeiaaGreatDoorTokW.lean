/- Tokens: Check of the program. -/
import Derived.Test.YtkacjnifhmgeiaaGreatDoorTokS
import Derived.Test.YtkacjnifhmgeiaaGreatDoorGrpB
namespace Go.Proofs.YtkacjnifhmgeiaaGreatDoor
open Go.RowKit

theorem AtS.take {w : World} {g o c : Nat} {l : List Atr} (h : ∀ i (h : i < l.length), w.cell? ⟨g, o + i * 2, none⟩ = some (.string ⟨l[i].1.toArray⟩) ∧ w.cell? ⟨g, o + i * 2 + 1, none⟩ = some (.string ⟨l[i].2.toArray⟩)) (hg : g < w.heap.size) (k : Nat) (hk : k ≤ l.length) : AtS w (.slice (some ⟨g, o, none⟩) k c) (l.take k) := by
  have hl : (l.take k).length = k := by simp; omega
  refine ⟨some ⟨g, o, none⟩, c, by rw [hl], fun i hi => ?_⟩
  rw [hl] at hi
  have hi' : i < l.length := by omega
  refine ⟨g, o, rfl, hg, ?_, ?_⟩
  · have := (h i hi').1; simpa using this
  · have := (h i hi').2; simpa using this
theorem atEF_cons2 (p : List Atr) (a : Atr) (l : List Atr) : atEF p (a :: l) = if isNm a.1 = false then 1 else if (p.any (isN a.1)) then 6 else atEF (p ++ [a]) l := rfl

end Go.Proofs.YtkacjnifhmgeiaaGreatDoor

/- Documents: what must be in any case. -/
import Derived.Test.YtkacjnifhmgeiaaGreatDoorXmlP
import Derived.Test.YtkacjnifhmgeiaaGreatDoorXmlL
import Derived.Test.YtkacjnifhmgeiaaGreatDoorTreR
import Derived.Test.YtkacjnifhmgeiaaGreatDoorGrpO
import Derived.Test.YtkacjnifhmgeiaaGreatDoorGrpP
import Derived.Test.YtkacjnifhmgeiaaGreatDoorGrpQ
namespace Go.Proofs.YtkacjnifhmgeiaaGreatDoor
open Go.RowKit

/-- The constant document. -/
def docN : Nd := .mk [114] [([97], [60, 38])] [] [.mk [] [] [120] [], .mk [110, 58, 101] [] [] []]
def docS : List UInt8 := [60, 114, 32, 97, 61, 34, 38, 108, 116, 59, 38, 97, 109, 112, 59, 34, 62, 120, 60, 110, 58, 101, 47, 62, 60, 47, 114, 62]
def docR : List UInt8 := [60, 63, 120, 109, 108, 32, 118, 101, 114, 115, 105, 111, 110, 61, 39, 49, 46, 48, 39, 63, 62, 60, 33, 45, 45, 32, 99, 32, 45, 45, 62, 60, 114, 32, 97, 32, 61, 32, 39, 38, 108, 116, 59, 38, 97, 109, 112, 59, 39, 62, 120, 60, 110, 58, 101, 62, 60, 47, 110, 58, 101, 32, 62, 60, 47, 114, 62, 32]
theorem doc_ck : ckX docN = 0 := by decide
theorem doc_wr : wrX docN = docS := by decide
theorem doc_pr : prX docN = (docS, 0) := by unfold prX; rw [if_pos doc_ck, doc_wr]
theorem doc_rd : rdX docR = .ok docN := by rfl
theorem doc_bad : rdX [60, 97, 62, 60, 47, 98, 62] = .error 4 := by rfl
set_option maxRecDepth 100000 in
set_option maxHeartbeats 4000000 in
theorem doc_c (w : World) :
    Calls Tryz.prog 26 #[] w fun e w' => ∃ va vk, e = .returned (.agg #[.string ⟨docN.n.toArray⟩, va, .string ⟨docN.x.toArray⟩, vk]) ∧ Bl w w' ∧ ∃ P, AtP w' P va docN.a ∧ NdS w' P vk docN.k := by
  have hZ0 := nb_new w []
  go_enter Tryz.func26, Tryz.ntmps26
  go_wp2
  go_returns
  refine ⟨_, _, rfl, (((Bl.refl _).alloc _).alloc _).alloc _, fun _ => True, ⟨some ⟨w.heap.size + 1, 0, none⟩, 1, rfl, Nat.le_refl _, fun i hi => ?_⟩, ⟨some ⟨w.heap.size + 1 + 1, 0, none⟩, 2, rfl, Nat.le_refl _, fun _ => ⟨_, _, rfl, by simp, trivial, ?_, ?_, trivial⟩⟩⟩
  · obtain rfl : i = 0 := by have : i < 1 := hi; omega
    refine ⟨w.heap.size + 1, 0, rfl, by simp, trivial, ?_, ?_⟩
    · rw [cell_old (by simp), cell_new (by simp)]; rfl
    · rw [cell_old (by simp), cell_new (by simp)]; rfl
  · exact NdC_leaf (by rw [cell_new (by simp)]; rfl) (by rw [cell_new (by simp)]; rfl) (by rw [cell_new (by simp)]; rfl) (by rw [cell_new (by simp)]; rfl)
  · exact NdC_leaf (by rw [cell_new (by simp)]; rfl) (by rw [cell_new (by simp)]; rfl) (by rw [cell_new (by simp)]; rfl) (by rw [cell_new (by simp)]; rfl)
end Go.Proofs.YtkacjnifhmgeiaaGreatDoor

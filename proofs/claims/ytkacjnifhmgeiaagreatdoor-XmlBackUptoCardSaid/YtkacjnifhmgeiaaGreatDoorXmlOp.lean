/- A node that is handed in by itself: what the row's reading gives; its weight. -/
import Derived.Test.YtkacjnifhmgeiaaGreatDoorGrpN
import Derived.WideShapes
namespace Go.Proofs.YtkacjnifhmgeiaaGreatDoor
open Go.RowKit Go.ChangeShapes Go.WideShapes Go.ChangeAt Go.WideElems

section
variable {H : Type} {enc : TypeId × Value → H} {w : World} {sp : Nat → Bool} {held : Bool}
theorem node_of {n : Nat} {c : List Value} {y : DataW H × List MemPlace} (h : DataW.trod enc Tryz.prog w 0 sp held n 25 c = some y) :
    ∃ (m : Nd) (va vk : Value), c = [.string ⟨m.n.toArray⟩, va, .string ⟨m.x.toArray⟩, vk] ∧ AtP w (· < w.heap.size) va m.a ∧ NdS w (· < w.heap.size) vk m.k ∧ wtN m ≤ 6 * Rows.uptoBulk y.1 := by
  have c4 : Tryz.prog.cellsOf 25 = 4 := by kernel_rfl
  obtain ⟨y0, y1, y2, y3, m2, rfl, hx, hl, k0, k1, k2, k3⟩ := struct4n Tryz.underlying25 h
  rw [c4] at hl
  obtain ⟨x0, x1, x2, x3, rfl⟩ := four_of hl
  have c1 : Tryz.prog.cellsOf 9 = 1 := by kernel_rfl
  have c2 : Tryz.prog.cellsOf 23 = 1 := by kernel_rfl
  have c3 : Tryz.prog.cellsOf 22 = 1 := by kernel_rfl
  obtain ⟨s, e0, rfl, _⟩ := DataW.trod_string Tryz.underlying9 k0
  obtain ⟨va, al, e1, hA, hC, hz⟩ := attrs_of k1
  obtain ⟨t, e2, rfl, _⟩ := DataW.trod_string Tryz.underlying9 k2
  obtain ⟨vk, kl, e3, hN, hw⟩ := nodes_of m2 k3
  simp only [c1, c2, c3] at e0 e1 e2 e3
  simp at e0 e1 e2 e3
  subst e0 e1 e2 e3
  refine ⟨.mk s.data.toList al t.data.toList kl, x1, x3, by simp [Nd.n, Nd.x], AtP.of hA hC, hN, ?_⟩
  have hwa := wtA_sz al
  rw [hx]
  simp only [wtN, Rows.uptoBulk, Rows.uptoBulkAll]
  omega
set_option maxRecDepth 100000 in
/-- A node that is handed in. -/
theorem open_node {r : Reach} {b0 : Nat} {v : Value} {d : DataW H} {ps : List MemPlace} (hval : Value.okWide Tryz.prog w r b0 25 v) (hd : DataW.Trod enc Tryz.prog w 0 sp held 25 v d ps) :
    ∃ (m : Nd) (va vk : Value), v = .agg #[.string ⟨m.n.toArray⟩, va, .string ⟨m.x.toArray⟩, vk] ∧ AtP w (· < w.heap.size) va m.a ∧ NdS w (· < w.heap.size) vk m.k ∧ wtN m ≤ 6 * Rows.uptoBulk d := by
  obtain ⟨cs, rfl, _⟩ := okWide_struct Tryz.underlying25 hval
  obtain ⟨fuel, hf⟩ := hd
  obtain ⟨m, va, vk, h1, h2, h3, h4⟩ := node_of hf
  refine ⟨m, va, vk, ?_, h2, h3, h4⟩
  obtain ⟨l⟩ := cs
  simp only [Value.cells] at h1
  rw [h1]
end
end Go.Proofs.YtkacjnifhmgeiaaGreatDoor

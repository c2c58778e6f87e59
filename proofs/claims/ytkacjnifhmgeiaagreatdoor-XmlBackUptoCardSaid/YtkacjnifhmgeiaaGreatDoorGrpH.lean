/- Trees: names of those that are open. · Trees: put. · Trees: put, a text (printed by a program from put of an element). · Trees: close. · Trees: put, a text (printed by a program from put of an element). · Trees: put, a text (printed by a program from put of an element). -/
import Derived.Test.YtkacjnifhmgeiaaGreatDoorGrpG
import Derived.Test.YtkacjnifhmgeiaaGreatDoorGrpF
import Derived.Test.YtkacjnifhmgeiaaGreatDoorGrpC
import Derived.BigRegion
import Derived.RegionTactic
namespace Go.Proofs.YtkacjnifhmgeiaaGreatDoor
open Go.RowKit

theorem bel_gr {w W : World} {g : Option Nat} {k : Nat} (h : w.grownBy W g) (hk : ∀ j, g = some j → k ≤ j) (hs : k ≤ w.heap.size) : Below k w W :=
  ⟨h.os, h.tape, h.output, h.size, fun i hi => h.block i (by omega) (fun e => by have := hk i e.symm; omega)⟩
theorem new_cells2 (w : World) (o : Obj) (c : Array Value) (e : TypeId) : ∀ j u, c.toList[j]? = some u → ((w.alloc o).alloc (.cells c e)).cell? ((⟨w.heap.size + 1, 0, none⟩ : Addr).add j) = some u := by
  have := new_cells (w.alloc o) c e
  simpa using this
theorem Tryz.infoStr : (Tryz.prog.info? 9).map (fun i => (i.zero, i.size, i.bytes)) = some (some (.string ⟨#[]⟩), 1, 16) := by kernel_rfl
def strV (l : List Nm) : List Value := l.map fun n => .string ⟨n.toArray⟩
theorem strV_snoc (l : List Nm) (n : Nm) : strV (l ++ [n]) = strV l ++ [.string ⟨n.toArray⟩] := by simp [strV]
/-- Own texts read as texts. -/
theorem own_sts {w : World} {base : Nat} {v : Value} {l : List Nm} (h : w.ownsRow base 9 1 v l.length (strV l)) : StS w v l := by
  have h' := h
  rcases h.2 with ⟨rfl, h0⟩ | ⟨g, cap, cur, rfl, -, hg, hnc, -⟩
  · have : l = [] := List.eq_nil_of_length_eq_zero h0
    subst this
    exact ⟨none, 0, rfl, Nat.le_refl _, fun i hi => absurd hi (by simp)⟩
  · refine ⟨_, _, rfl, hnc, fun i hi => ⟨g, 0, rfl, (Array.getElem?_eq_some_iff.1 hg).1, ?_⟩⟩
    have := World.ownsRow.cellAt h' i (by omega)
    rw [Nat.zero_add, this]
    simp [strV, hi]
end Go.Proofs.YtkacjnifhmgeiaaGreatDoor

namespace Go.Proofs.YtkacjnifhmgeiaaGreatDoor
open Go.RowKit

theorem Tryz.infoNod : (Tryz.prog.info? 25).map (fun i => (i.zero, i.size, i.bytes)) = some (some (.agg #[.string ⟨#[]⟩, .slice none 0 0, .string ⟨#[]⟩, .slice none 0 0]), 4, 80) := by kernel_rfl
theorem own_bl' {w w' : World} {base : Nat} {e : TypeId} {size n : Nat} {v : Value} {xs : List Value} (h : w.ownsRow base e size v n xs) (hb : Bl w w') : w'.ownsRow base e size v n xs :=
  own_same h fun k hk => Below.block hb k (World.ownsRow.lt h k hk).2
theorem own_shp {w : World} {base : Nat} {e : TypeId} {size n : Nat} {v : Value} {xs : List Value} (h : w.ownsRow base e size v n xs) : ∃ ao c, v = .slice ao n c ∧ n ≤ c := by
  rcases h.2 with ⟨rfl, rfl⟩ | ⟨g, cap, cur, rfl, _, _, hc, _⟩
  · exact ⟨none, 0, rfl, Nat.le_refl _⟩
  · exact ⟨_, _, rfl, hc⟩
theorem own_last4 {w : World} {base g n c : Nat} {e : TypeId} {xs : List Value} {a0 a1 a2 a3 : Value} (h : w.ownsRow base e 4 (.slice (some ⟨g, 0, none⟩) (n + 1) c) (n + 1) (xs ++ [a0, a1, a2, a3])) (hx : xs.length = n * 4) :
    w.cell? ⟨g, n * 4, none⟩ = some a0 ∧ w.cell? ⟨g, n * 4 + 1, none⟩ = some a1 ∧ w.cell? ⟨g, n * 4 + 2, none⟩ = some a2 ∧ w.cell? ⟨g, n * 4 + 3, none⟩ = some a3 ∧
      w.frozen? ⟨g, n * 4, none⟩ = false ∧ w.frozen? ⟨g, n * 4 + 1, none⟩ = false ∧ w.frozen? ⟨g, n * 4 + 2, none⟩ = false ∧ w.frozen? ⟨g, n * 4 + 3, none⟩ = false ∧ g < w.heap.size := by
  have hs := (World.ownsRow.lt h g rfl).2
  refine ⟨?_, ?_, ?_, ?_, World.ownsRow.frozenAt h _, World.ownsRow.frozenAt h _, World.ownsRow.frozenAt h _, World.ownsRow.frozenAt h _, hs⟩
  · rw [World.ownsRow.cellAt h _ (by omega), List.getElem?_append_right (by omega), hx, show n * 4 - n * 4 = 0 by omega]; rfl
  · rw [World.ownsRow.cellAt h _ (by omega), List.getElem?_append_right (by omega), hx, show n * 4 + 1 - n * 4 = 1 by omega]; rfl
  · rw [World.ownsRow.cellAt h _ (by omega), List.getElem?_append_right (by omega), hx, show n * 4 + 2 - n * 4 = 2 by omega]; rfl
  · rw [World.ownsRow.cellAt h _ (by omega), List.getElem?_append_right (by omega), hx, show n * 4 + 3 - n * 4 = 3 by omega]; rfl
theorem sc_comm (w : World) (a c : Addr) (x y : Value) (h : a.block ≠ c.block) : (w.setCell a x).setCell c y = (w.setCell c y).setCell a x := by
  unfold World.setCell
  congr 1
  apply Array.ext
  · simp
  · intro i h1 h2
    simp only [Array.getElem_modify]
    by_cases e1 : c.block = i <;> by_cases e2 : a.block = i <;> simp_all
theorem sc_comm4 (w : World) (g k o o0 o1 o2 o3 : Nat) (x b0 b1 b2 b3 : Value) (h : g ≠ k) :
    ((((w.setCell ⟨k, o, none⟩ x).setCell ⟨g, o0, none⟩ b0).setCell ⟨g, o1, none⟩ b1).setCell ⟨g, o2, none⟩ b2).setCell ⟨g, o3, none⟩ b3 = ((((w.setCell ⟨g, o0, none⟩ b0).setCell ⟨g, o1, none⟩ b1).setCell ⟨g, o2, none⟩ b2).setCell ⟨g, o3, none⟩ b3).setCell ⟨k, o, none⟩ x := by
  rw [sc_comm _ ⟨k, o, none⟩ ⟨g, o0, none⟩ _ _ (Ne.symm h), sc_comm _ ⟨k, o, none⟩ ⟨g, o1, none⟩ _ _ (Ne.symm h), sc_comm _ ⟨k, o, none⟩ ⟨g, o2, none⟩ _ _ (Ne.symm h), sc_comm _ ⟨k, o, none⟩ ⟨g, o3, none⟩ _ _ (Ne.symm h)]
end Go.Proofs.YtkacjnifhmgeiaaGreatDoor

namespace Go.Proofs.YtkacjnifhmgeiaaGreatDoor
open Go.RowKit

theorem NdO.lastc {w : World} {base n c0 : Nat} {P : Nat → Prop} {ao : Option Addr} {l : List Nd} {ents : List Nent} (h : NdO w base P (.slice ao n c0) l ents) (o : List Nd) (c : Nd) (he : l = o ++ [c]) :
    ∃ g, ao = some ⟨g, 0, none⟩ ∧ g < w.heap.size ∧ w.cell? ⟨g, o.length * 4, none⟩ = some (.string ⟨c.n.toArray⟩) ∧ w.cell? ⟨g, o.length * 4 + 2, none⟩ = some (.string ⟨c.x.toArray⟩) ∧ w.frozen? ⟨g, o.length * 4 + 2, none⟩ = false := by
  have hl := h.len
  have h2 := h.row
  have heq := h.eq
  rcases h2.2 with ⟨e, h0⟩ | ⟨g, cap, cur, e, _, hg, _⟩
  · rw [he] at hl; simp at hl; omega
  · cases e
    have hlt : o.length < ents.length := by rw [hl, he]; simp
    obtain ⟨t1, t2, t3, t4⟩ := ndV_get ents o.length hlt
    have hc : ents[o.length].1 = c := by
      have : (ents.map (·.1))[o.length]? = some c := by rw [heq, he]; simp
      rw [List.getElem?_map, List.getElem?_eq_getElem hlt] at this
      simpa using this
    rw [hc] at t1 t3
    exact ⟨g, rfl, (Array.getElem?_eq_some_iff.1 hg).1, by rw [World.ownsRow.cellAt h2 _ (by omega)]; exact t1, by rw [World.ownsRow.cellAt h2 _ (by omega)]; exact t3, World.ownsRow.frozenAt h2 _⟩
end Go.Proofs.YtkacjnifhmgeiaaGreatDoor

namespace Go.Proofs.YtkacjnifhmgeiaaGreatDoor
open Go.RowKit

theorem list_snoc {α : Type} {l : List α} {n : Nat} (h : l.length = n + 1) : ∃ l0 x, l = l0 ++ [x] := by
  rcases List.eq_nil_or_concat l with rfl | ⟨l0, x, rfl⟩
  · simp at h
  · exact ⟨l0, x, by simp⟩
/-- How many are open. -/
def lenO (b : Nat) (w : World) : Nat := match w.cell? ⟨b, 1, none⟩ with | some (.slice _ n _) => n | _ => 0
theorem lsX_le (r : List Nd) (f : List (Nm × List Atr × List Nd)) : (lsX r f).length ≤ cntS (r, f) := by
  have hc : ∀ l : List Nd, l.length ≤ cntL l := by
    intro l
    induction l with
    | nil => simp [cntL]
    | cons d l ih => cases d with
      | mk n a x k => simp only [List.length_cons, cntL, cntN]; omega
  cases f with
  | nil => have := hc r; simp only [lsX, cntS, cntF]; omega
  | cons c f => obtain ⟨n, a, k⟩ := c; have := hc k; simp only [lsX, cntS, cntF]; omega
theorem BdR.setb {w : World} {b : Nat} {a c : Value} {t : TypeId} (h : w.heap[b]? = some (.cells #[a, c] t (0, 0))) : w.cell? ⟨b, 0, none⟩ = some a ∧ w.cell? ⟨b, 1, none⟩ = some c ∧ w.frozen? ⟨b, 0, none⟩ = false ∧ w.frozen? ⟨b, 1, none⟩ = false := by
  simp [World.cell?, World.frozen?, h]
theorem sc_comm2 (w : World) (b o1 o2 : Nat) (x y : Value) (h : o1 ≠ o2) : (w.setCell ⟨b, o1, none⟩ x).setCell ⟨b, o2, none⟩ y = (w.setCell ⟨b, o2, none⟩ y).setCell ⟨b, o1, none⟩ x := by
  unfold World.setCell
  congr 1
  apply Array.ext
  · simp
  · intro i h1 h2
    simp only [Array.getElem_modify]
    by_cases e : b = i
    · simp only [e, if_true]
      generalize w.heap[i]'(by simpa using h1) = q
      cases q <;> simp [Array.setIfInBounds_comm _ _ h]
    · simp [e]
end Go.Proofs.YtkacjnifhmgeiaaGreatDoor

namespace Go.Proofs.YtkacjnifhmgeiaaGreatDoor
open Go.RowKit

end Go.Proofs.YtkacjnifhmgeiaaGreatDoor

namespace Go.Proofs.YtkacjnifhmgeiaaGreatDoor
open Go.RowKit

end Go.Proofs.YtkacjnifhmgeiaaGreatDoor

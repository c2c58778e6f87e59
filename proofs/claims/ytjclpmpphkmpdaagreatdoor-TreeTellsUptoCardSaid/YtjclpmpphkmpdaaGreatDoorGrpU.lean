/- Trees: the constant tree and its tokens, in plain Lean. · Trees: the constant tree of the laws, in memory. -/
import Derived.Test.YtjclpmpphkmpdaaGreatDoorGrpH
import Derived.Test.YtjclpmpphkmpdaaGreatDoorGrpT
import Derived.Test.YtjclpmpphkmpdaaGreatDoorTokOp
import Derived.Test.YtjclpmpphkmpdaaGreatDoorTreR
namespace Go.Proofs.YtjclpmpphkmpdaaGreatDoor
open Go.RowKit

def trd : List UInt8 := [60, 112, 62, 97, 60, 98, 114, 62, 60, 117, 108, 62, 60, 108, 105, 62, 98, 60, 108, 105, 62, 99, 60, 47, 120, 62]
def pgL : List Nd := [.mk sP [] [] [.mk [] [] [97] [], .mk sBr [] [] []], .mk sUl [] [] [.mk sLi [] [] [.mk [] [] [98] []], .mk sLi [] [] [.mk [] [] [99] []]]]
theorem tg1 : rdE trd = 0 := by decide +kernel
theorem tg2 : ckE (rdT trd) = 0 := by decide +kernel
theorem tg3 : sameL (ofM (rdT trd)) pgL = true := by decide +kernel
theorem tg4 : bdT (rdT trd) = pgL := by unfold bdT; rw [if_pos tg2]; exact (sameL_iff _ _).1 tg3
theorem tg5 : ckT pgL = 0 := by decide +kernel
theorem tg6 : (fltL pgL).length = 12 := by decide +kernel
theorem tg7 : szT (rdT trd) ≤ 1099511627776 := by decide +kernel
theorem tg8 : txB (rdT trd) ≤ 1099511627776 := by decide +kernel
theorem tg9 : ∀ t ∈ rdT trd, t.2.2.1.length ≤ 100000000 := by decide +kernel
theorem tg10 : wtL pgL < 1000 := by decide +kernel
theorem tg11 : cntL pgL ≤ 1000 := by decide +kernel
end Go.Proofs.YtjclpmpphkmpdaaGreatDoor

namespace Go.Proofs.YtjclpmpphkmpdaaGreatDoor
open Go.RowKit

theorem NdC_of {w : World} {P : Nat → Prop} {g o : Nat} {n x : Nm} {ak : Option Addr} {ck : Nat} {k : List Nd} (c0 : w.cell? ⟨g, o, none⟩ = some (.string ⟨n.toArray⟩)) (c1 : w.cell? ⟨g, o + 1, none⟩ = some (.slice none 0 0)) (c2 : w.cell? ⟨g, o + 2, none⟩ = some (.string ⟨x.toArray⟩))
    (c3 : w.cell? ⟨g, o + 3, none⟩ = some (.slice ak k.length ck)) (hk : k.length ≤ ck) (hn : k ≠ [] → ∃ g' o', ak = some ⟨g', o', none⟩ ∧ g' < w.heap.size ∧ P g' ∧ NdL w P g' o' k) : NdC w P g o (.mk n [] x k) :=
  ⟨_, _, _, c0, c1, c2, c3, AtP.nil _ _, hk, hn⟩
theorem NdC_leaf {w : World} {P : Nat → Prop} {g o : Nat} {n x : Nm} (c0 : w.cell? ⟨g, o, none⟩ = some (.string ⟨n.toArray⟩)) (c1 : w.cell? ⟨g, o + 1, none⟩ = some (.slice none 0 0)) (c2 : w.cell? ⟨g, o + 2, none⟩ = some (.string ⟨x.toArray⟩))
    (c3 : w.cell? ⟨g, o + 3, none⟩ = some (.slice none 0 0)) : NdC w P g o (.mk n [] x []) :=
  NdC_of c0 c1 c2 c3 (Nat.le_refl _) (fun h => absurd rfl h)
theorem NdC_kids {w : World} {P : Nat → Prop} {g o g' o' ck : Nat} {n x : Nm} {k : List Nd} (c0 : w.cell? ⟨g, o, none⟩ = some (.string ⟨n.toArray⟩)) (c1 : w.cell? ⟨g, o + 1, none⟩ = some (.slice none 0 0)) (c2 : w.cell? ⟨g, o + 2, none⟩ = some (.string ⟨x.toArray⟩))
    (c3 : w.cell? ⟨g, o + 3, none⟩ = some (.slice (some ⟨g', o', none⟩) k.length ck)) (hk : k.length ≤ ck) (h1 : g' < w.heap.size) (h2 : P g') (h3 : NdL w P g' o' k) : NdC w P g o (.mk n [] x k) :=
  NdC_of c0 c1 c2 c3 hk (fun _ => ⟨g', o', rfl, h1, h2, h3⟩)
theorem cell_new {w : World} {c : Array Value} {e : TypeId} {n i : Nat} (hn : n = w.heap.size) : (w.alloc (.cells c e)).cell? ⟨n, i, none⟩ = c[i]? := by subst hn; simp
theorem cell_old {w : World} {o : Obj} {n i : Nat} (hn : n < w.heap.size) : (w.alloc o).cell? ⟨n, i, none⟩ = w.cell? ⟨n, i, none⟩ :=
  ((Bl.refl w).alloc o).cells.1 n i hn
set_option maxRecDepth 100000 in
set_option maxHeartbeats 1000000 in
theorem page_c (w : World) :
    Calls Tryz.prog 27 #[] w fun e w' => ∃ v, e = .returned v ∧ (∃ P, NdS w' P v pgL) ∧ Bl w w' := by
  go_enter Tryz.func27, Tryz.ntmps27
  go_wp2
  go_ret
  refine ⟨_, rfl, ⟨fun _ => True, some ⟨w.heap.size + 1 + 1 + 1 + 1, 0, none⟩, 2, rfl, Nat.le_refl _, fun _ => ⟨_, _, rfl, by simp, trivial, ?_, ?_, trivial⟩⟩, (((((Bl.refl w).alloc _).alloc _).alloc _).alloc _).alloc _⟩
  · refine NdC_kids (g' := w.heap.size) (o' := 0) (ck := 2) (by rw [cell_new (by simp)]; rfl) (by rw [cell_new (by simp)]; rfl) (by rw [cell_new (by simp)]; rfl) (by rw [cell_new (by simp)]; rfl) (by decide) (by simp <;> omega) trivial ⟨?_, ?_, trivial⟩
    · exact NdC_leaf (by rw [cell_old (by simp <;> omega), cell_old (by simp <;> omega), cell_old (by simp <;> omega), cell_old (by simp <;> omega), cell_new (by simp)]; rfl) (by rw [cell_old (by simp <;> omega), cell_old (by simp <;> omega), cell_old (by simp <;> omega), cell_old (by simp <;> omega), cell_new (by simp)]; rfl) (by rw [cell_old (by simp <;> omega), cell_old (by simp <;> omega), cell_old (by simp <;> omega), cell_old (by simp <;> omega), cell_new (by simp)]; rfl) (by rw [cell_old (by simp <;> omega), cell_old (by simp <;> omega), cell_old (by simp <;> omega), cell_old (by simp <;> omega), cell_new (by simp)]; rfl)
    · exact NdC_leaf (by rw [cell_old (by simp <;> omega), cell_old (by simp <;> omega), cell_old (by simp <;> omega), cell_old (by simp <;> omega), cell_new (by simp)]; rfl) (by rw [cell_old (by simp <;> omega), cell_old (by simp <;> omega), cell_old (by simp <;> omega), cell_old (by simp <;> omega), cell_new (by simp)]; rfl) (by rw [cell_old (by simp <;> omega), cell_old (by simp <;> omega), cell_old (by simp <;> omega), cell_old (by simp <;> omega), cell_new (by simp)]; rfl) (by rw [cell_old (by simp <;> omega), cell_old (by simp <;> omega), cell_old (by simp <;> omega), cell_old (by simp <;> omega), cell_new (by simp)]; rfl)
  · refine NdC_kids (g' := w.heap.size + 1 + 1 + 1) (o' := 0) (ck := 2) (by rw [cell_new (by simp)]; rfl) (by rw [cell_new (by simp)]; rfl) (by rw [cell_new (by simp)]; rfl) (by rw [cell_new (by simp)]; rfl) (by decide) (by simp <;> omega) trivial ⟨?_, ?_, trivial⟩
    · refine NdC_kids (g' := w.heap.size + 1) (o' := 0) (ck := 1) (by rw [cell_old (by simp <;> omega), cell_new (by simp)]; rfl) (by rw [cell_old (by simp <;> omega), cell_new (by simp)]; rfl) (by rw [cell_old (by simp <;> omega), cell_new (by simp)]; rfl) (by rw [cell_old (by simp <;> omega), cell_new (by simp)]; rfl) (by decide) (by simp <;> omega) trivial ⟨?_, trivial⟩
      exact NdC_leaf (by rw [cell_old (by simp <;> omega), cell_old (by simp <;> omega), cell_old (by simp <;> omega), cell_new (by simp)]; rfl) (by rw [cell_old (by simp <;> omega), cell_old (by simp <;> omega), cell_old (by simp <;> omega), cell_new (by simp)]; rfl) (by rw [cell_old (by simp <;> omega), cell_old (by simp <;> omega), cell_old (by simp <;> omega), cell_new (by simp)]; rfl) (by rw [cell_old (by simp <;> omega), cell_old (by simp <;> omega), cell_old (by simp <;> omega), cell_new (by simp)]; rfl)
    · refine NdC_kids (g' := w.heap.size + 1 + 1) (o' := 0) (ck := 1) (by rw [cell_old (by simp <;> omega), cell_new (by simp)]; rfl) (by rw [cell_old (by simp <;> omega), cell_new (by simp)]; rfl) (by rw [cell_old (by simp <;> omega), cell_new (by simp)]; rfl) (by rw [cell_old (by simp <;> omega), cell_new (by simp)]; rfl) (by decide) (by simp <;> omega) trivial ⟨?_, trivial⟩
      exact NdC_leaf (by rw [cell_old (by simp <;> omega), cell_old (by simp <;> omega), cell_new (by simp)]; rfl) (by rw [cell_old (by simp <;> omega), cell_old (by simp <;> omega), cell_new (by simp)]; rfl) (by rw [cell_old (by simp <;> omega), cell_old (by simp <;> omega), cell_new (by simp)]; rfl) (by rw [cell_old (by simp <;> omega), cell_old (by simp <;> omega), cell_new (by simp)]; rfl)
end Go.Proofs.YtjclpmpphkmpdaaGreatDoor

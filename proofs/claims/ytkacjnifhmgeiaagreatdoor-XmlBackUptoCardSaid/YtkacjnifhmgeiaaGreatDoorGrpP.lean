/- Trees: Of. · Trees: Build of the program. · Trees: the constant tree and its tokens, in plain Lean. · Trees: the constant tree of the laws, in memory. · Documents: what must be in any case. -/
import Derived.Test.YtkacjnifhmgeiaaGreatDoorGrpO
import Derived.Test.YtkacjnifhmgeiaaGreatDoorGrpM
import Derived.Test.YtkacjnifhmgeiaaGreatDoorGrpC
import Derived.Test.YtkacjnifhmgeiaaGreatDoorGrpN
import Derived.Test.YtkacjnifhmgeiaaGreatDoorTreR
import Derived.Test.YtkacjnifhmgeiaaGreatDoorGrpG
import Derived.Test.YtkacjnifhmgeiaaGreatDoorXmlP
namespace Go.Proofs.YtkacjnifhmgeiaaGreatDoor
open Go.RowKit

def txB (l : List Tok) : Nat := (l.flatMap (·.2.2.2)).length
theorem txB_app (a c : List Tok) : txB (a ++ c) = txB a + txB c := by unfold txB; rw [List.flatMap_append, List.length_append]
theorem txB_cons (t : Tok) (l : List Tok) : txB (t :: l) = t.2.2.2.length + txB l := by unfold txB; rw [List.flatMap_cons, List.length_append]
end Go.Proofs.YtkacjnifhmgeiaaGreatDoor

namespace Go.Proofs.YtkacjnifhmgeiaaGreatDoor
open Go.RowKit

/-- What Build answers. -/
def bdT (l : List Tok) : List Nd := if ckE l = 0 then ofM l else []
end Go.Proofs.YtkacjnifhmgeiaaGreatDoor

namespace Go.Proofs.YtkacjnifhmgeiaaGreatDoor
open Go.RowKit

def trd : List UInt8 := [60, 112, 62, 97, 60, 98, 114, 62, 60, 117, 108, 62, 60, 108, 105, 62, 98, 60, 108, 105, 62, 99, 60, 47, 120, 62]
def pgL : List Nd := [.mk sP [] [] [.mk [] [] [97] [], .mk sBr [] [] []], .mk sUl [] [] [.mk sLi [] [] [.mk [] [] [98] []], .mk sLi [] [] [.mk [] [] [99] []]]]
theorem tg1 : rdE trd = 0 := by decide +kernel
theorem tg2 : ckE (rdT trd) = 0 := by decide +kernel
theorem tg3 : sameL (ofM (rdT trd)) pgL = true := by decide +kernel
theorem tg4 : bdT (rdT trd) = pgL := by unfold bdT; rw [if_pos tg2]; exact (sameL_iff _ _).1 tg3
theorem tg5 : ckT pgL = 0 := by decide +kernel
theorem tg6 : (fltL pgL).length = 12 := by decide +kernel
theorem tg7 : szT (rdT trd) ≤ 1099511627776 := by decide +kernel
theorem tg8 : txB (rdT trd) ≤ 1099511627776 := by decide +kernel
theorem tg9 : ∀ t ∈ rdT trd, t.2.2.1.length ≤ 100000000 := by decide +kernel
theorem tg10 : wtL pgL < 1000 := by decide +kernel
theorem tg11 : cntL pgL ≤ 1000 := by decide +kernel
end Go.Proofs.YtkacjnifhmgeiaaGreatDoor

namespace Go.Proofs.YtkacjnifhmgeiaaGreatDoor
open Go.RowKit

theorem NdC_of {w : World} {P : Nat → Prop} {g o : Nat} {n x : Nm} {ak : Option Addr} {ck : Nat} {k : List Nd} (c0 : w.cell? ⟨g, o, none⟩ = some (.string ⟨n.toArray⟩)) (c1 : w.cell? ⟨g, o + 1, none⟩ = some (.slice none 0 0)) (c2 : w.cell? ⟨g, o + 2, none⟩ = some (.string ⟨x.toArray⟩))
    (c3 : w.cell? ⟨g, o + 3, none⟩ = some (.slice ak k.length ck)) (hk : k.length ≤ ck) (hn : k ≠ [] → ∃ g' o', ak = some ⟨g', o', none⟩ ∧ g' < w.heap.size ∧ P g' ∧ NdL w P g' o' k) : NdC w P g o (.mk n [] x k) :=
  ⟨_, _, _, c0, c1, c2, c3, AtP.nil _ _, hk, hn⟩
theorem NdC_leaf {w : World} {P : Nat → Prop} {g o : Nat} {n x : Nm} (c0 : w.cell? ⟨g, o, none⟩ = some (.string ⟨n.toArray⟩)) (c1 : w.cell? ⟨g, o + 1, none⟩ = some (.slice none 0 0)) (c2 : w.cell? ⟨g, o + 2, none⟩ = some (.string ⟨x.toArray⟩))
    (c3 : w.cell? ⟨g, o + 3, none⟩ = some (.slice none 0 0)) : NdC w P g o (.mk n [] x []) :=
  NdC_of c0 c1 c2 c3 (Nat.le_refl _) (fun h => absurd rfl h)
theorem NdC_kids {w : World} {P : Nat → Prop} {g o g' o' ck : Nat} {n x : Nm} {k : List Nd} (c0 : w.cell? ⟨g, o, none⟩ = some (.string ⟨n.toArray⟩)) (c1 : w.cell? ⟨g, o + 1, none⟩ = some (.slice none 0 0)) (c2 : w.cell? ⟨g, o + 2, none⟩ = some (.string ⟨x.toArray⟩))
    (c3 : w.cell? ⟨g, o + 3, none⟩ = some (.slice (some ⟨g', o', none⟩) k.length ck)) (hk : k.length ≤ ck) (h1 : g' < w.heap.size) (h2 : P g') (h3 : NdL w P g' o' k) : NdC w P g o (.mk n [] x k) :=
  NdC_of c0 c1 c2 c3 hk (fun _ => ⟨g', o', rfl, h1, h2, h3⟩)
theorem cell_new {w : World} {c : Array Value} {e : TypeId} {n i : Nat} (hn : n = w.heap.size) : (w.alloc (.cells c e)).cell? ⟨n, i, none⟩ = c[i]? := by subst hn; simp
theorem cell_old {w : World} {o : Obj} {n i : Nat} (hn : n < w.heap.size) : (w.alloc o).cell? ⟨n, i, none⟩ = w.cell? ⟨n, i, none⟩ :=
  ((Bl.refl w).alloc o).cells.1 n i hn
end Go.Proofs.YtkacjnifhmgeiaaGreatDoor

namespace Go.Proofs.YtkacjnifhmgeiaaGreatDoor
open Go.RowKit

/-- The constant document. -/
def docN : Nd := .mk [114] [([97], [60, 38])] [] [.mk [] [] [120] [], .mk [110, 58, 101] [] [] []]
def docS : List UInt8 := [60, 114, 32, 97, 61, 34, 38, 108, 116, 59, 38, 97, 109, 112, 59, 34, 62, 120, 60, 110, 58, 101, 47, 62, 60, 47, 114, 62]
def docR : List UInt8 := [60, 63, 120, 109, 108, 32, 118, 101, 114, 115, 105, 111, 110, 61, 39, 49, 46, 48, 39, 63, 62, 60, 33, 45, 45, 32, 99, 32, 45, 45, 62, 60, 114, 32, 97, 32, 61, 32, 39, 38, 108, 116, 59, 38, 97, 109, 112, 59, 39, 62, 120, 60, 110, 58, 101, 62, 60, 47, 110, 58, 101, 32, 62, 60, 47, 114, 62, 32]
theorem doc_ck : ckX docN = 0 := by decide
theorem doc_wr : wrX docN = docS := by decide
theorem doc_pr : prX docN = (docS, 0) := by unfold prX; rw [if_pos doc_ck, doc_wr]
theorem doc_rd : rdX docR = .ok docN := by rfl
theorem doc_bad : rdX [60, 97, 62, 60, 47, 98, 62] = .error 4 := by rfl
set_option maxRecDepth 100000 in
set_option maxHeartbeats 4000000 in
theorem doc_c (w : World) :
    Calls Tryz.prog 26 #[] w fun e w' => ∃ va vk, e = .returned (.agg #[.string ⟨docN.n.toArray⟩, va, .string ⟨docN.x.toArray⟩, vk]) ∧ Bl w w' ∧ ∃ P, AtP w' P va docN.a ∧ NdS w' P vk docN.k := by
  have hZ0 := nb_new w []
  go_enter Tryz.func26, Tryz.ntmps26
  go_wp2
  go_returns
  refine ⟨_, _, rfl, (((Bl.refl _).alloc _).alloc _).alloc _, fun _ => True, ⟨some ⟨w.heap.size + 1, 0, none⟩, 1, rfl, Nat.le_refl _, fun i hi => ?_⟩, ⟨some ⟨w.heap.size + 1 + 1, 0, none⟩, 2, rfl, Nat.le_refl _, fun _ => ⟨_, _, rfl, by simp, trivial, ?_, ?_, trivial⟩⟩⟩
  · obtain rfl : i = 0 := by have : i < 1 := hi; omega
    refine ⟨w.heap.size + 1, 0, rfl, by simp, trivial, ?_, ?_⟩
    · rw [cell_old (by simp), cell_new (by simp)]; rfl
    · rw [cell_old (by simp), cell_new (by simp)]; rfl
  · exact NdC_leaf (by rw [cell_new (by simp)]; rfl) (by rw [cell_new (by simp)]; rfl) (by rw [cell_new (by simp)]; rfl) (by rw [cell_new (by simp)]; rfl)
  · exact NdC_leaf (by rw [cell_new (by simp)]; rfl) (by rw [cell_new (by simp)]; rfl) (by rw [cell_new (by simp)]; rfl) (by rw [cell_new (by simp)]; rfl)
end Go.Proofs.YtkacjnifhmgeiaaGreatDoor

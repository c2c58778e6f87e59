/- Tokens: small letters: Folded of the program, FoldOf of the reference. · Tokens: a value behind a =. -/
import Derived.Test.YtkacjnifhmgeiaaGreatDoorGrpE
namespace Go.Proofs.YtkacjnifhmgeiaaGreatDoor
open Go.RowKit

theorem fld_nat (c : UInt8) : (fld c).toNat = if 65 ≤ c.toNat ∧ c.toNat ≤ 90 then c.toNat + 32 else c.toNat := by
  unfold fld
  split
  · rename_i h
    rw [UInt8.toNat_add]
    simp only [show (32 : UInt8).toNat = 32 from rfl]
    omega
  · rfl
theorem fold_len (l : List UInt8) : (fold l).length = l.length := by simp [fold]
theorem conv_cap (W : World) (g cap : Nat) (l : List UInt8) (h : BA W g l) : (convert 76 9 (.slice (some ⟨g, 0, none⟩) l.length cap)).run Tryz.prog W = .ok (.string ⟨l.toArray⟩) W := by
  have h1 := run_convert_bytes_arg (P := Tryz.prog) W 76 5 Tryz.underlying76 Tryz.underlying5 g 0 l.length cap (l.map fun c => (c.toNat : Int)) (by simp) (fun i hi => by
    rw [Nat.zero_add, h i hi]
    simp [List.getD, hi]) 9 Tryz.underlying9
  have e : (l.map fun c => (c.toNat : Int)).map (fun n => UInt8.ofNat n.toNat) = l := by
    rw [List.map_map]
    exact (List.map_congr_left (fun c _ => by simp)).trans (List.map_id l)
  rw [h1, strOfNums, e]
/-- The first k bytes are small, the others as they were. -/
def FA (w : World) (g : Nat) (l : List UInt8) (k : Nat) : Prop := ∀ i, (h : i < l.length) → w.cell? ⟨g, i, none⟩ = some (.int .u8 ((if i < k then fld l[i] else l[i]).toNat : Int)) ∧ w.frozen? ⟨g, i, none⟩ = false
theorem FA.skip {w : World} {g k : Nat} {l : List UInt8} (h : FA w g l k) (hk : k < l.length) (hs : fld l[k] = l[k]) : FA w g l (k + 1) := by
  intro i hi
  refine ⟨?_, (h i hi).2⟩
  rw [(h i hi).1]
  by_cases e : i = k
  · subst e; simp [hs]
  · have : (i < k + 1) = (i < k) := by simp; omega
    simp only [this]
theorem FA.set {w : World} {g k : Nat} {l : List UInt8} (h : FA w g l k) (hk : k < l.length) {n : Int} (hn : n = ((fld l[k]).toNat : Int)) : FA (w.setCell ⟨g, k, none⟩ (.int .u8 n)) g l (k + 1) := by
  intro i hi
  by_cases e : i = k
  · subst e
    refine ⟨?_, by rw [World.frozen?_setCell]; exact (h i hi).2⟩
    rw [hn, World.cell?_setCell_same w _ _ (by rw [(h i hi).1])]
    simp
  · refine ⟨?_, by rw [World.frozen?_setCell]; exact (h i hi).2⟩
    rw [World.cell?_setCell_other w _ _ _ (by simp []), (h i hi).1]
    have : (i < k + 1) = (i < k) := by simp; omega
    simp only [this]

theorem FA_brow (w : World) (l : List UInt8) (cap : Nat) (t : TypeId) : FA (w.alloc (brow l cap t)) w.heap.size l 0 := by
  intro i hi
  refine ⟨by rw [BA_brow w l cap t i hi]; simp, ?_⟩
  unfold brow; rw [World.frozen?_alloc_mark]; simp [bytesRow]; omega
def bcs (l : List UInt8) : List Value := l.map fun c => .int .u8 (c.toNat : Int)
theorem bcs_len (l : List UInt8) : (bcs l).length = l.length := by simp [bcs]
/-- What was laid in a new block stands there. -/
theorem new_cells (w : World) (c : Array Value) (e : TypeId) : ∀ j u, c.toList[j]? = some u → (w.alloc (.cells c e)).cell? ((⟨w.heap.size, 0, none⟩ : Addr).add j) = some u := by
  intro j u h
  have hadd : (⟨w.heap.size, 0, none⟩ : Addr).add j = ⟨w.heap.size, j, none⟩ := by unfold Addr.add; split <;> simp_all
  rw [hadd]
  simpa using h
theorem conv_own (W : World) (base : Nat) (v : Value) (l : List UInt8) (h : W.ownsRow base 5 1 v l.length (bcs l)) : (convert 76 9 v).run Tryz.prog W = .ok (.string ⟨l.toArray⟩) W := by
  rcases h.2 with ⟨rfl, h0⟩ | ⟨g, cap, cur, rfl, -, -, -⟩
  · obtain rfl := List.eq_nil_of_length_eq_zero h0
    have := run_convert_bytes_nil (P := Tryz.prog) W 76 5 Tryz.underlying76 Tryz.underlying5 0 0
    exact this _ Tryz.underlying9
  · refine conv_cap W g cap l (fun i hi => ?_)
    have := h.cells (g := g) rfl i (.int .u8 (l[i].toNat : Int)) (by simp [bcs, hi])
    by_cases e : i = 0
    · subst e; simpa [Addr.add] using this
    · simpa [Addr.add, e] using this
theorem Tryz.infoU8 : (Tryz.prog.info? 5).map (fun i => (i.zero, i.size, i.bytes)) = some (some (.int .u8 0), 1, 1) := by kernel_rfl
end Go.Proofs.YtkacjnifhmgeiaaGreatDoor

namespace Go.Proofs.YtkacjnifhmgeiaaGreatDoor
open Go.RowKit

theorem hd_isq (q : UInt8) (r : List UInt8) : (hd isq (q :: r) = true) ↔ (q = 34 ∨ q = 39) := by
  have h1 : q.toNat = 34 ↔ q = 34 := ⟨fun h => UInt8.toNat_inj.1 h, fun h => by rw [h]; rfl⟩
  have h2 : q.toNat = 39 ↔ q = 39 := ⟨fun h => UInt8.toNat_inj.1 h, fun h => by rw [h]; rfl⟩
  simp [hd, isq, h1, h2]
theorem alloc_gb (w : World) (o : Obj) (b : Option Nat) : w.grownBy (w.alloc o) b := World.grownBy_alloc w o b

end Go.Proofs.YtkacjnifhmgeiaaGreatDoor

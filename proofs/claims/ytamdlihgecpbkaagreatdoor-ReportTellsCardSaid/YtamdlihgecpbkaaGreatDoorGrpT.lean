/- Shelves: what is tried once. · Shelves that are handed in: what the row's reading gives. -/
import Derived.Test.YtamdlihgecpbkaaGreatDoorGrpS
import Derived.Test.YtamdlihgecpbkaaGreatDoorGrpO
set_option maxRecDepth 100000
set_option maxHeartbeats 2000000
namespace Go.Proofs.YtamdlihgecpbkaaGreatDoor
open Go.RowKit
def rackE : Ent := ([98], [78, 101, 119], [], 9, [60, 98, 62, 120, 60, 47, 98, 62, 121])
def rackF : Ent := ([97], [], [], 5, [])
def rackS : Shf := ([rackE, rackF], [[97]])
def newC : Ent := ([99], [], [], 7, [])
def newB : Ent := ([98], [], [], 8, [])
theorem r1 : chkE rackE = 0 := by decide +kernel
theorem r2 : chkE rackF = 0 := by decide +kernel
theorem r3 : chkE newC = 0 := by decide +kernel
theorem r4 : chkE newB = 0 := by decide +kernel
theorem r5 : ckS rackS = 0 := by decide +kernel
theorem r6 : putC rackS [newC, newB] = 0 := by decide +kernel
theorem r7 : putL rackS [newC, newB] = [rackE, newC, rackF] := by decide +kernel
theorem r8 : putN rackS [newC, newB] = 1 := by decide +kernel
theorem rack_c (w : World) : Calls Tryz.prog 39 #[] w fun e w' => ∃ sv, e = .returned sv ∧ ShS w' sv rackS ∧ Bl w w' := by
 go_enter Tryz.func39, Tryz.ntmps39; go_wp2; have h0 := heap_alloc_new w (.cells #[.slice (some ⟨w.heap.size + 1, 0, none⟩) 2 2, .slice (some ⟨w.heap.size + 1 + 1, 0, none⟩) 1 1] 27); have h1 := heap_alloc_new (w.alloc (.cells #[.slice (some ⟨w.heap.size + 1, 0, none⟩) 2 2, .slice (some ⟨w.heap.size + 1 + 1, 0, none⟩) 1 1] 27)) (.cells (enW [rackE, rackF]).toArray 23); have h2 := heap_alloc_new ((w.alloc (.cells #[.slice (some ⟨w.heap.size + 1, 0, none⟩) 2 2, .slice (some ⟨w.heap.size + 1 + 1, 0, none⟩) 1 1] 27)).alloc (.cells (enW [rackE, rackF]).toArray 23)) (.cells #[.string ⟨#[97]⟩] 9); have b1 : ∀ o o', Bl (w.alloc o) ((w.alloc o).alloc o') := fun o o' => (Bl.refl _).alloc o'
 have g0 := keep_bl (keep_bl h0 ((Bl.refl _).alloc (.cells (enW [rackE, rackF]).toArray 23))) ((Bl.refl _).alloc (.cells #[.string ⟨#[97]⟩] 9)); have g1 := keep_bl h1 ((Bl.refl _).alloc (.cells #[.string ⟨#[97]⟩] 9)); have e1 : (w.alloc (.cells #[.slice (some ⟨w.heap.size + 1, 0, none⟩) 2 2, .slice (some ⟨w.heap.size + 1 + 1, 0, none⟩) 1 1] 27)).heap.size = w.heap.size + 1 := by simp
 have e2 : ((w.alloc (.cells #[.slice (some ⟨w.heap.size + 1, 0, none⟩) 2 2, .slice (some ⟨w.heap.size + 1 + 1, 0, none⟩) 1 1] 27)).alloc (.cells (enW [rackE, rackF]).toArray 23)).heap.size = w.heap.size + 1 + 1 := by simp
 rw [e1] at g1; rw [e2] at h2; refine bodyPost_ret (results_cell_row rfl _ _ w.heap.size 27 #[.slice (some ⟨w.heap.size + 1, 0, none⟩) 2 2, .slice (some ⟨w.heap.size + 1 + 1, 0, none⟩) 1 1] (0, 0) _ rfl g0 Tryz.underlying27 rfl Tryz.infoShf) rfl ?_; refine ⟨_, rfl, ⟨_, _, rfl, EnS.of_cells (l := [rackE, rackF]) rfl (by decide) (Array.getElem?_eq_some_iff.1 g1).1 (fun j u hj => ?_), ⟨some ⟨w.heap.size + 1 + 1, 0, none⟩, 1, rfl, Nat.le_refl _, fun i hi => ⟨_, _, rfl, (Array.getElem?_eq_some_iff.1 h2).1, ?_⟩⟩⟩, (((Bl.refl _).alloc _).alloc _).alloc _⟩
 · exact (cell_of_row g1).trans (by rw [Nat.zero_add]; simpa using hj)
 · have hi : i < 1 := hi; obtain rfl : i = 0 := by omega
   exact cell_of_row h2
end Go.Proofs.YtamdlihgecpbkaaGreatDoor
namespace Go.Proofs.YtamdlihgecpbkaaGreatDoor
open Go.RowKit Go.ChangeShapes Go.WideShapes Go.ChangeAt Go.WideElems
section
variable {H : Type} {enc : TypeId × Value → H} {w : World} {sp : Nat → Bool} {held : Bool}
theorem five_of {α : Type} {c : List α} (h : c.length = 5) : ∃ x y z u v, c = [x, y, z, u, v] := by
 match c, h with
 | [x, y, z, u, v], _ => exact ⟨x, y, z, u, v, rfl⟩
theorem entry_of {n : Nat} {c : List Value} {y : DataW H × List MemPlace} (h : DataW.trod enc Tryz.prog w 0 sp held n 23 c = some y) :
 ∃ x : Ent, c = enQ x ∧ (eI x).length ≤ maxLen := by
 obtain ⟨xs, m, _, rfl, hl, hlen, hf⟩ := DataW.trod_struct Tryz.underlying23 h; have c5 : Tryz.prog.cellsOf 23 = 5 := by kernel_rfl
 rw [c5] at hl; obtain ⟨x0, x1, x2, x3, x4, rfl⟩ := five_of hl; match xs, hlen with
 | [y0, y1, y2, y3, y4], _ =>
   have c1 : Tryz.prog.cellsOf 9 = 1 := by kernel_rfl
   have c2 : Tryz.prog.cellsOf 3 = 1 := by kernel_rfl
   have h0 : DataW.trod enc Tryz.prog w 0 sp held m 9 [x0] = some y0 := by
    have h := hf 0 _ rfl; change DataW.trod enc Tryz.prog w 0 sp held m 9 (List.take (Tryz.prog.cellsOf 9) [x0, x1, x2, x3, x4]) = some y0 at h; rw [c1] at h; exact h
   have h1 : DataW.trod enc Tryz.prog w 0 sp held m 9 [x1] = some y1 := by
    have h := hf 1 _ rfl; change DataW.trod enc Tryz.prog w 0 sp held m 9 (List.take (Tryz.prog.cellsOf 9) [x1, x2, x3, x4]) = some y1 at h; rw [c1] at h; exact h
   have h2 : DataW.trod enc Tryz.prog w 0 sp held m 9 [x2] = some y2 := by
    have h := hf 2 _ rfl; change DataW.trod enc Tryz.prog w 0 sp held m 9 (List.take (Tryz.prog.cellsOf 9) [x2, x3, x4]) = some y2 at h; rw [c1] at h; exact h
   have h3 : DataW.trod enc Tryz.prog w 0 sp held m 3 [x3] = some y3 := by
    have h := hf 3 _ rfl; change DataW.trod enc Tryz.prog w 0 sp held m 3 (List.take (Tryz.prog.cellsOf 3) [x3, x4]) = some y3 at h; rw [c2] at h; exact h
   have h4 : DataW.trod enc Tryz.prog w 0 sp held m 9 [x4] = some y4 := by
    have h := hf 4 _ rfl; change DataW.trod enc Tryz.prog w 0 sp held m 9 (List.take (Tryz.prog.cellsOf 9) [x4]) = some y4 at h; rw [c1] at h; exact h
   obtain ⟨s0, e0, -, b0⟩ := DataW.trod_string Tryz.underlying9 h0; obtain ⟨s1, e1, -, -⟩ := DataW.trod_string Tryz.underlying9 h1; obtain ⟨s2, e2, -, -⟩ := DataW.trod_string Tryz.underlying9 h2; obtain ⟨k, e3, -, -⟩ := DataW.trod_int Tryz.underlying3 h3; obtain ⟨s4, e4, -, -⟩ := DataW.trod_string Tryz.underlying9 h4; cases e0; cases e1; cases e2; cases e3; cases e4; refine ⟨(s0.data.toList, s1.data.toList, s2.data.toList, k, s4.data.toList), by simp [enQ, eI, eT, eL, eA, eH], ?_⟩; show s0.data.toList.length ≤ maxLen; rw [Array.length_toList]; exact b0
theorem ents_of {n : Nat} {c : List Value} {y : DataW H × List MemPlace} (h : DataW.trod enc Tryz.prog w 0 sp held n 24 c = some y) :
 ∃ va l, c = [va] ∧ EnS w va l ∧ (∀ x ∈ l, (eI x).length ≤ maxLen) ∧ l.length ≤ maxLen := by
 rcases DataW.trod_slice Tryz.underlying24 h with ⟨rfl, rfl⟩ | ⟨a, len, cap, elems, rest, m, rfl, rfl, rfl, _, hc, hcm, hlen, hel, _, _⟩
 · exact ⟨_, [], rfl, EnS.nil w, (fun x hx => absurd hx (by simp)), Nat.zero_le _⟩
 have c5 : Tryz.prog.cellsOf 23 = 5 := by kernel_rfl
 rw [c5] at hel; obtain ⟨l, hll, hal⟩ := list_of (α := Ent) (Q := fun i x => (eI x).length ≤ maxLen ∧ ∀ j, j < 5 → w.cell? ((a.add (i * 5)).add j) = (enQ x)[j]?) len (by
  intro i hi; have h1 := hel i hi; rw [List.getElem?_eq_getElem (by omega)] at h1; obtain ⟨cs, h2, h3⟩ := Option.bind_eq_some_iff.1 h1; obtain ⟨x, rfl, hx⟩ := entry_of h3; exact ⟨x, hx, (cells_get h2).2⟩)
 refine ⟨_, l, rfl, ⟨some a, cap, by rw [hll], by omega, fun i hi => ?_⟩, fun x hx => ?_, by omega⟩
 · have hq := (hal i hi).2; have q0 := (hal 0 (by omega)).2 0 (by omega); have hs : a.spot = none := by
    have : w.cell? ((a.add (0 * 5)).add 0) = some _ := q0; have := World.cell?_spot this; simpa [Addr.add] using this
   have hlt := cell_lt (show w.cell? ((a.add (0 * 5)).add 0) = some _ from q0); rw [add_at hs, add_at rfl] at hlt; simp only [add_at hs, add_at (a := ⟨a.block, _, none⟩) rfl] at hq; refine ⟨a.block, a.off, ?_, hlt, hq 0 (by omega), hq 1 (by omega), hq 2 (by omega), hq 3 (by omega), hq 4 (by omega)⟩; obtain ⟨b, o, s⟩ := a; subst hs; rfl
 · obtain ⟨i, hi, rfl⟩ := List.getElem_of_mem hx; exact (hal i hi).1
theorem texts_of {n : Nat} {c : List Value} {y : DataW H × List MemPlace} (h : DataW.trod enc Tryz.prog w 0 sp held n 25 c = some y) :
 ∃ va l, c = [va] ∧ StS w va l ∧ l.length ≤ maxLen := by
 rcases DataW.trod_slice Tryz.underlying25 h with ⟨rfl, rfl⟩ | ⟨a, len, cap, elems, rest, m, rfl, rfl, rfl, _, hc, hcm, hlen, hel, _, _⟩
 · exact ⟨_, [], rfl, ⟨none, 0, rfl, Nat.le_refl _, fun i hi => absurd hi (by simp)⟩, Nat.zero_le _⟩
 have c1 : Tryz.prog.cellsOf 9 = 1 := by kernel_rfl
 rw [c1] at hel; obtain ⟨l, hll, hal⟩ := list_of (α := Nm) (Q := fun i x => w.cell? (a.add i) = some (.string ⟨x.toArray⟩)) len (by
  intro i hi; have h1 := hel i hi; rw [List.getElem?_eq_getElem (by omega)] at h1; obtain ⟨cs, h2, h3⟩ := Option.bind_eq_some_iff.1 h1; obtain ⟨s, rfl, -, -⟩ := DataW.trod_string Tryz.underlying9 h3; have h4 := (cells_get h2).2 0 (by omega); exact ⟨s.data.toList, by simpa [Addr.add] using h4⟩)
 refine ⟨_, l, rfl, ⟨some a, cap, by rw [hll], by omega, fun i hi => ?_⟩, by omega⟩; have hq := hal i hi; have q0 := hal 0 (by omega); have hs : a.spot = none := by
  have := World.cell?_spot q0; simpa [Addr.add] using this
 have hlt := cell_lt q0; rw [add_at hs] at hlt hq; refine ⟨a.block, a.off, ?_, hlt, hq⟩; obtain ⟨b, o, s⟩ := a; subst hs; rfl
theorem maxLen_is {n : Nat} (h : n ≤ maxLen) : n ≤ 9223372036854775807 := by unfold maxLen at h; omega
theorem open_shelf {r : Reach} {b0 : Nat} {v : Value} {d : DataW H} {ps : List MemPlace} (hval : Value.okWide Tryz.prog w r b0 27 v) (hd : DataW.Trod enc Tryz.prog w 0 sp held 27 v d ps) :
 ∃ s, ShS w v s ∧ (∀ x ∈ s.1, (eI x).length ≤ 9223372036854775807) ∧ s.1.length ≤ 9223372036854775807 ∧ s.2.length ≤ 9223372036854775807 := by
 obtain ⟨v0, v1, y0, y1, n, rfl, -, -, h0, h1⟩ := Joins.open_agg2 Tryz.underlying27 (of_decide_eq_true (by kernel_rfl)) (by kernel_rfl) hval hd; obtain ⟨va, l, e0, hE, hI, hl⟩ := ents_of h0; obtain ⟨vb, m, e1, hS, hm⟩ := texts_of h1; cases e0; cases e1; exact ⟨(l, m), ⟨v0, v1, rfl, hE, hS⟩, fun x hx => maxLen_is (hI x hx), maxLen_is hl, maxLen_is hm⟩
theorem open_ent {r : Reach} {b0 : Nat} {v : Value} {d : DataW H} {ps : List MemPlace} (hval : Value.okWide Tryz.prog w r b0 23 v) (hd : DataW.Trod enc Tryz.prog w 0 sp held 23 v d ps) :
 ∃ x, v = enV x ∧ (eI x).length ≤ maxLen := by
 obtain ⟨cs, rfl, -⟩ := okWide_struct Tryz.underlying23 hval; obtain ⟨fuel, hf⟩ := hd; obtain ⟨x, h1, h2⟩ := entry_of hf; refine ⟨x, ?_, h2⟩; obtain ⟨l⟩ := cs; simp only [Value.cells] at h1; unfold enV; simp only [enQ] at h1; rw [h1]
end
end Go.Proofs.YtamdlihgecpbkaaGreatDoor

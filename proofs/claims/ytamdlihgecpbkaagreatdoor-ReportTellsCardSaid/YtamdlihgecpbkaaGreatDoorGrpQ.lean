/- Shelves: rows of entries; slices.Clone; a keeper's own shelf. · Shelves: the reference's way to put entries and to mark ids, said plainly: it is the program's. · Rows of entries in place: what stores leave; the place of an id; where an entry belongs. · Shelves: the place of an id; slices.Delete of an entry; where an entry belongs. · Shelves: slices.BinarySearchFunc of entries. · Shelves: slices.Insert of one Ent. · Shelves: slices.Insert of one Ent that does not fit. · Shelves: slices.Insert of one Nm. · Shelves: slices.Insert of one Nm that does not fit. · Shelves: slices.Insert at any place; what keeps a keeper. · Shelves: put. -/
import Derived.Test.YtamdlihgecpbkaaGreatDoorGrpP
import Derived.Test.YtamdlihgecpbkaaGreatDoorGrpO
import Derived.Lib.SliceRun
import Derived.Deep.LoopGhost
import Derived.Shelf.Spec.SlicesInsertGrow
namespace Go.Proofs.YtamdlihgecpbkaaGreatDoor
open Go.RowKit
def enQ (x : Ent) : List Value := [.string ⟨(eI x).toArray⟩, .string ⟨(eT x).toArray⟩, .string ⟨(eL x).toArray⟩, .int .i64 (eA x), .string ⟨(eH x).toArray⟩]
def enW (l : List Ent) : List Value := l.flatMap enQ
theorem enW_cons (x : Ent) (l : List Ent) : enW (x :: l) = enQ x ++ enW l := by simp [enW]
theorem enW_app (l m : List Ent) : enW (l ++ m) = enW l ++ enW m := by simp [enW]
theorem enQ_len (x : Ent) : (enQ x).length = 5 := rfl
theorem enW_len (l : List Ent) : (enW l).length = l.length * 5 := by
 induction l with
 | nil => rfl
 | cons x l ih => rw [enW_cons, List.length_append, ih, enQ_len, List.length_cons]; omega
theorem enW_at : ∀ (l : List Ent) (i c : Nat) (hi : i < l.length), c < 5 → (enW l)[i * 5 + c]? = (enQ l[i])[c]? := by
 intro l; induction l with
 | nil => intro i c hi; simp at hi
 | cons x l ih =>
   intro i c hi hc; rw [enW_cons]; cases i with
   | zero => rw [List.getElem?_append_left (by rw [enQ_len]; omega)]; simp
   | succ i =>
     rw [List.getElem?_append_right (by rw [enQ_len]; omega), enQ_len, show (i + 1) * 5 + c - 5 = i * 5 + c by omega]; exact ih i c (by simpa using hi) hc
theorem enW_idx {l : List Ent} {j : Nat} {u : Value} (h : (enW l)[j]? = some u) : ∃ i c, ∃ hi : i < l.length, c < 5 ∧ j = i * 5 + c ∧ (enQ l[i])[c]? = some u := by
 have hj : j < (enW l).length := (List.getElem?_eq_some_iff.1 h).1; rw [enW_len] at hj; have hi : j / 5 < l.length := by omega
 refine ⟨j / 5, j % 5, hi, by omega, by omega, ?_⟩; rw [← enW_at l (j / 5) (j % 5) hi (by omega), show j / 5 * 5 + j % 5 = j by omega]; exact h
theorem EnS.cells {w : World} {g o n c : Nat} {l : List Ent} (h : EnS w (.slice (some ⟨g, o, none⟩) n c) l) : ∀ j u, (enW l)[j]? = some u → w.cell? ⟨g, o + j, none⟩ = some u := by
 intro j u hj; obtain ⟨ao, cap, e, _, h⟩ := h; cases e; obtain ⟨i, c', hi, hc, rfl, hu⟩ := enW_idx hj; obtain ⟨g', o', e, _, h3, h4, h5, h6, h7⟩ := h i hi; cases e; match c', hc, hu with
 | 0, _, hu => rw [← show some _ = some u from hu]; exact h3
 | 1, _, hu => rw [← show some _ = some u from hu, ← Nat.add_assoc]; exact h4
 | 2, _, hu => rw [← show some _ = some u from hu, ← Nat.add_assoc]; exact h5
 | 3, _, hu => rw [← show some _ = some u from hu, ← Nat.add_assoc]; exact h6
 | 4, _, hu => rw [← show some _ = some u from hu, ← Nat.add_assoc]; exact h7
theorem EnS.of_cells {w : World} {g o n c : Nat} {l : List Ent} (hn : n = l.length) (hc : n ≤ c) (hg : g < w.heap.size) (h : ∀ j u, (enW l)[j]? = some u → w.cell? ⟨g, o + j, none⟩ = some u) : EnS w (.slice (some ⟨g, o, none⟩) n c) l := by
 subst hn; refine ⟨_, _, rfl, hc, fun i hi => ⟨g, o, rfl, hg, ?_, ?_, ?_, ?_, ?_⟩⟩
 · exact h (i * 5) _ (enW_at l i 0 hi (by omega))
 · rw [Nat.add_assoc]; exact h (i * 5 + 1) _ (enW_at l i 1 hi (by omega))
 · rw [Nat.add_assoc]; exact h (i * 5 + 2) _ (enW_at l i 2 hi (by omega))
 · rw [Nat.add_assoc]; exact h (i * 5 + 3) _ (enW_at l i 3 hi (by omega))
 · rw [Nat.add_assoc]; exact h (i * 5 + 4) _ (enW_at l i 4 hi (by omega))
def EnO (w : World) (base : Nat) (v : Value) (l : List Ent) : Prop := w.ownsRow base 23 5 v l.length (enW l)
def StO (w : World) (base : Nat) (v : Value) (l : List Nm) : Prop := w.ownsRow base 9 1 v l.length (strV l)
theorem strV_at (l : List Nm) (i : Nat) (hi : i < l.length) : (strV l)[i]? = some (.string ⟨l[i].toArray⟩) := by unfold strV; simp [hi]
theorem strV_len (l : List Nm) : (strV l).length = l.length := by unfold strV; simp
theorem StO.sts {w : World} {base : Nat} {v : Value} {l : List Nm} (h : StO w base v l) : StS w v l := by
 rcases h.2 with ⟨rfl, h0⟩ | ⟨g, cap, cur, rfl, hb, hg, hnc, rest⟩
 · obtain rfl := List.eq_nil_of_length_eq_zero h0; exact ⟨none, 0, rfl, Nat.le_refl _, fun i hi => absurd hi (by simp)⟩
 · have hlt : g < w.heap.size := (Array.getElem?_eq_some_iff.1 hg).1; refine ⟨_, _, rfl, hnc, fun i hi => ⟨g, 0, rfl, hlt, ?_⟩⟩; have := World.ownsRow.cells h (g := g) rfl i _ (strV_at l i hi); rw [addr_at] at this; exact this
theorem EnO.of_bl {w w' : World} {base : Nat} {v : Value} {l : List Ent} (h : EnO w base v l) (hb : Bl w w') : EnO w' base v l := own_bl h hb
theorem StO.of_bl {w w' : World} {base : Nat} {v : Value} {l : List Nm} (h : StO w base v l) (hb : Bl w w') : StO w' base v l := own_bl h hb
def ahB (a b : Ent) : Bool := decide (eA b < eA a) || decide (eA a = eA b) && Op.bytesLess (eI a) (eI b)
theorem ahB_iff (a b : Ent) : ahB a b = true ↔ Ahd a b := by
 rw [Ahd_iff]; unfold ahB ltT; simp
def plI (l : List Ent) (i : Nm) : Int := match plE l i with | some k => k | none => -1
theorem setCells_hp (g : Nat) (e : TypeId) (fr : Nat × Nat) : ∀ (vs : List Value) (o : Nat) (w : World) (cur : Array Value), w.heap[g]? = some (.cells cur e fr) →
 ∃ cur', (w.setCells g o vs).heap[g]? = some (.cells cur' e fr) ∧ cur'.size = cur.size ∧ ∀ j, cur'[j]? = if o ≤ j ∧ j < o + vs.length ∧ j < cur.size then vs[j - o]? else cur[j]? := by
 intro vs; induction vs with
 | nil => intro o w cur h; exact ⟨cur, h, rfl, fun j => by rw [if_neg (by simp; omega)]⟩
 | cons v vs ih =>
   intro o w cur h; have hlt : g < w.heap.size := (Array.getElem?_eq_some_iff.1 h).1; have hv : w.heap[g] = .cells cur e fr := (Array.getElem?_eq_some_iff.1 h).2; have h2 : (w.setCell ⟨g, o, none⟩ v).heap[g]? = some (.cells (cur.setIfInBounds o v) e fr) := by
    unfold World.setCell; rw [Array.getElem?_eq_getElem (by simpa using hlt), Array.getElem_modify]; simp [hv]
   obtain ⟨cur', h3, h4, h5⟩ := ih (o + 1) _ _ h2; refine ⟨cur', h3, by rw [h4]; simp, fun j => ?_⟩; rw [h5 j]; simp only [Array.size_setIfInBounds, List.length_cons]; by_cases e1 : j = o
   · subst e1; rw [if_neg (by omega)]; by_cases e2 : j < cur.size
     · rw [if_pos ⟨Nat.le_refl _, by omega, e2⟩]; simp [e2]
     · rw [if_neg (by omega)]; simp [e2]
   · by_cases e2 : o + 1 ≤ j ∧ j < o + 1 + vs.length ∧ j < cur.size
     · rw [if_pos e2, if_pos (by omega), show j - o = (j - (o + 1)) + 1 by omega]; simp
     · rw [if_neg e2, if_neg (by omega)]; simp [Ne.symm e1]
theorem setCells_gr (g : Nat) : ∀ (vs : List Value) (o : Nat) (w : World), w.grownBy (w.setCells g o vs) (some g) := by
 intro vs; induction vs with
 | nil => intro o w; exact World.grownBy.refl _ _
 | cons v vs ih =>
   intro o w; show w.grownBy ((w.setCell ⟨g, o, none⟩ v).setCells g (o + 1) vs) (some g); have h1 : w.grownBy (w.setCell ⟨g, o, none⟩ v) (some g) := ⟨rfl, rfl, rfl, by simp [World.setCell], fun k hk hne => by
    have : k ≠ g := fun e => hne (by rw [e])
    simp [World.setCell, Array.getElem?_modify, Ne.symm this]⟩
   exact World.grownBy.trans h1 (ih (o + 1) _)
theorem cell_of_row {w : World} {g j : Nat} {cur : Array Value} {e : TypeId} {fr : Nat × Nat} (h : w.heap[g]? = some (.cells cur e fr)) : w.cell? ⟨g, j, none⟩ = cur[j]? := by
 simp [World.cell?, h]
def zE : Ent := ([], [], [], 0, [])
theorem ixB_pl (l : List Ent) (id : Nm) : ixB (fun i => decide (eI (l.getD i zE) = id)) l.length = plI l id := by
 unfold plI; cases h : plE l id with
 | none =>
   refine ixB_miss _ _ (fun j hj => ?_); rw [getD_get _ _ _ hj]; exact decide_eq_false (plE_none h _ (List.getElem_mem hj))
 | some k =>
   obtain ⟨hk, he, hb⟩ := List.findIdx?_eq_some_iff_getElem.1 h; refine ixB_hit _ _ k hk ?_ (fun j hj => ?_)
   · rw [getD_get _ _ _ hk]; simpa using he
   · rw [getD_get _ _ _ (by omega)]; have := hb j hj; exact decide_eq_false (by simpa using this)
theorem keep_cells {w : World} {b : Nat} {ve vr : Value} {t : TypeId} (h : w.heap[b]? = some (.cells #[ve, vr] t)) : b < w.heap.size ∧ w.cell? ⟨b, 0, none⟩ = some ve ∧ w.cell? ⟨b, 1, none⟩ = some vr :=
 ⟨(Array.getElem?_eq_some_iff.1 h).1, by simp [World.cell?, h], by simp [World.cell?, h]⟩
theorem enW_take (l : List Ent) (i : Nat) (h : i ≤ l.length) : enW (l.take i) = (enW l).take (i * 5) := by
 have h1 : (enW l).take (i * 5) = (enW (l.take i) ++ enW (l.drop i)).take (i * 5) := by rw [← enW_app, List.take_append_drop]
 rw [h1, List.take_left' (by rw [enW_len, List.length_take]; omega)]
end Go.Proofs.YtamdlihgecpbkaaGreatDoor
namespace Go.Proofs.YtamdlihgecpbkaaGreatDoor
open Go.RowKit Go.Sort
end Go.Proofs.YtamdlihgecpbkaaGreatDoor
namespace Go.Proofs.YtamdlihgecpbkaaGreatDoor
open Go.RowKit
theorem strV_app (l m : List Nm) : strV (l ++ m) = strV l ++ strV m := by simp [strV]
theorem strQ_one (x : Nm) : ∀ u ∈ ([.string ⟨x.toArray⟩] : List Value), u.oneCell' = true := by
 intro u hu; simp only [List.mem_singleton] at hu; subst hu; rfl
theorem own_bas {w : World} {base : Nat} {e : TypeId} {size n : Nat} {v : Value} {xs : List Value} (h : w.ownsRow base e size v n xs) {k : Nat} (hk : v.ownBlock = some k) : base ≤ k ∧ k < w.heap.size := by
 rcases h.2 with ⟨rfl, _⟩ | ⟨g, cap, cur, rfl, hb, hg, _⟩
 · simp [Value.ownBlock] at hk
 · simp only [Value.ownBlock, Option.some.injEq] at hk; subst hk; exact ⟨hb, (Array.getElem?_eq_some_iff.1 hg).1⟩
theorem gr_below {w w' : World} {base : Nat} {row : Option Nat} (h : w.grownBy w' row) (hbw : base ≤ w.heap.size) (hr : ∀ k, row = some k → base ≤ k) : Below base w w' :=
 ⟨h.os, h.tape, h.output, h.size, fun k hk => h.block k (by omega) (fun e => by have := hr k e.symm; omega)⟩
theorem set_hp {w : World} {b o : Nat} {v : Value} {cur : Array Value} {e : TypeId} {fr : Nat × Nat} (hb : w.heap[b]? = some (.cells cur e fr)) : ∃ cur', (w.setCell ⟨b, o, none⟩ v).heap[b]? = some (.cells cur' e fr) ∧ cur'.size = cur.size ∧ ∀ j, cur'[j]? = if o = j ∧ j < cur.size then some v else cur[j]? := by
 obtain ⟨cur', h1, h2, h3⟩ := setCells_hp b e fr [v] o w cur hb; refine ⟨cur', h1, h2, fun j => ?_⟩; rw [h3 j, List.length_singleton]; by_cases c : o = j ∧ j < cur.size
 · rw [if_pos ⟨by omega, by omega, by omega⟩, if_pos c, c.1, Nat.sub_self]; rfl
 · rw [if_neg c, if_neg (by omega)]
theorem twoOf {cur : Array Value} {a b : Value} (hs : cur.size = 2) (h0 : cur[0]? = some a) (h1 : cur[1]? = some b) : cur = #[a, b] := by
 apply Array.ext_getElem?; intro i; match i with
 | 0 => simpa using h0
 | 1 => simpa using h1
 | i + 2 => rw [Array.getElem?_eq_none (by omega), Array.getElem?_eq_none (by simp)]
theorem keep_bl {w W : World} {b : Nat} {c : Obj} (hb : w.heap[b]? = some c) (h : Bl w W) : W.heap[b]? = some c := (Below.block h b (Array.getElem?_eq_some_iff.1 hb).1).trans hb
end Go.Proofs.YtamdlihgecpbkaaGreatDoor

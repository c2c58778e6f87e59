/- Trees: kinds of elements; how many stay open. · Trees: a builder in memory. · Trees: stays; names; put; close. · Trees: names of those that are open. -/
import Derived.Test.YtkacjnifhmgeiaaGreatDoorGrpB
import Derived.Test.YtkacjnifhmgeiaaGreatDoorGrpG
import Derived.Test.YtkacjnifhmgeiaaGreatDoorGrpF
namespace Go.Proofs.YtkacjnifhmgeiaaGreatDoor
open Go.RowKit

/-- A function that tells of a name. -/
structure DoN (N : Nat) (p : Nm → Bool) : Prop where
  cf : ∀ (args : Array Value) (W : World), Sem.run Tryz.prog (callFunc N args) W = .ok (.enter N args) W
  go : ∀ (n : Nm) W, Calls Tryz.prog N #[.string ⟨n.toArray⟩] W fun e w' => e = .returned (.bool (p n)) ∧ W = w'
/-- A slice reads as these texts. -/
def StS (w : World) (v : Value) (l : List Nm) : Prop :=
  ∃ ao cap, v = .slice ao l.length cap ∧ l.length ≤ cap ∧ ∀ i (h : i < l.length), ∃ g o, ao = some ⟨g, o, none⟩ ∧ g < w.heap.size ∧ w.cell? ⟨g, o + i, none⟩ = some (.string ⟨l[i].toArray⟩)
theorem StS.of_bl {w w' : World} {v : Value} {l : List Nm} (h : StS w v l) (hb : Bl w w') : StS w' v l := by
  obtain ⟨ao, cap, rfl, hc, h⟩ := h
  refine ⟨ao, cap, rfl, hc, fun i hi => ?_⟩
  obtain ⟨g, o, h1, h2, h3⟩ := h i hi
  exact ⟨g, o, h1, Nat.lt_of_lt_of_le h2 (Below.size hb), (hb.cells.1 g _ h2).trans h3⟩
/-- The place of the innermost one; -1: there is none. -/
def abI (nm : Nm) (p : Nm → Bool) (l : List Nm) : Int := match abv nm p l.reverse with | some i => i | none => -1
theorem abI_nil (nm : Nm) (p : Nm → Bool) : abI nm p [] = -1 := rfl
theorem abI_snoc (nm : Nm) (p : Nm → Bool) (l : List Nm) (x : Nm) : abI nm p (l ++ [x]) = if x = nm then (l.length : Int) else if p x then -1 else abI nm p l := by
  unfold abI
  rw [List.reverse_append]
  simp only [List.reverse_singleton, List.singleton_append, abv, List.length_reverse]
  by_cases h : x = nm
  · rw [if_pos h, if_pos h]
  · rw [if_neg h, if_neg h]
    by_cases h2 : p x = true
    · rw [if_pos h2, if_pos h2]
    · rw [if_neg h2, if_neg h2]
theorem str_eq (a b : Nm) : decide ((⟨a.toArray⟩ : ByteArray) = ⟨b.toArray⟩) = decide (a = b) := by simp
end Go.Proofs.YtkacjnifhmgeiaaGreatDoor

namespace Go.Proofs.YtkacjnifhmgeiaaGreatDoor
open Go.RowKit

/-- Rows that lie apart. -/
def Apt (a c : Value) : Prop := ∀ k, a.ownBlock = some k → c.ownBlock ≠ some k
/-- Those that are open: names, attributes, the attributes' value. -/
abbrev Oent := (Nm × List Atr) × Value
def opV (l : List Oent) : List Value := l.flatMap fun p => [.string ⟨p.1.1.toArray⟩, p.2, .string ⟨#[]⟩, .slice none 0 0]
theorem opV_snoc (l : List Oent) (p : Oent) : opV (l ++ [p]) = opV l ++ [.string ⟨p.1.1.toArray⟩, p.2, .string ⟨#[]⟩, .slice none 0 0] := by simp [opV]
theorem opV_len (l : List Oent) : (opV l).length = l.length * 4 := by
  induction l with
  | nil => rfl
  | cons a l ih => simp only [opV, List.flatMap_cons, List.length_append, List.length_cons, List.length_nil] at *; omega
theorem opV_get : ∀ (l : List Oent) (i : Nat) (h : i < l.length), (opV l)[i * 4]? = some (.string ⟨l[i].1.1.toArray⟩) ∧ (opV l)[i * 4 + 1]? = some l[i].2 ∧ (opV l)[i * 4 + 2]? = some (.string ⟨#[]⟩) ∧ (opV l)[i * 4 + 3]? = some (.slice none 0 0) := by
  intro l
  induction l with
  | nil => intro i h; simp at h
  | cons a l ih =>
    intro i h
    cases i with
    | zero => simp [opV]
    | succ i =>
      have := ih i (by simpa using h)
      have e : (i + 1) * 4 = i * 4 + 1 + 1 + 1 + 1 := by omega
      rw [e]
      simp only [opV, List.flatMap_cons, List.cons_append, List.nil_append, List.getElem?_cons_succ, List.getElem_cons_succ] at *
      exact this
theorem own_ty {w : World} {base : Nat} {e t : TypeId} {size n k : Nat} {v : Value} {xs : List Value} {c : Array Value} (h : w.ownsRow base e size v n xs) (hk : w.heap[k]? = some (.cells c t (0, 0))) (ht : e ≠ t) : v.ownBlock ≠ some k := by
  rcases h.2 with ⟨rfl, _⟩ | ⟨g, cap, cur, rfl, _, hg, _⟩
  · simp [Value.ownBlock]
  · simp only [Value.ownBlock, ne_eq, Option.some.injEq]
    rintro rfl
    rw [hg] at hk
    exact ht ((Obj.cells.inj (Option.some.inj hk)).2.1)
theorem own_row {w : World} {base : Nat} {e : TypeId} {size n : Nat} {v : Value} {xs : List Value} (h : w.ownsRow base e size v n xs) {k : Nat} (hk : v.ownBlock = some k) : ∃ c, w.heap[k]? = some (.cells c e (0, 0)) := by
  rcases h.2 with ⟨rfl, _⟩ | ⟨g, cap, cur, rfl, _, hg, _⟩
  · simp [Value.ownBlock] at hk
  · simp only [Value.ownBlock, Option.some.injEq] at hk; subst hk; exact ⟨_, hg⟩
theorem own_same {w w' : World} {base : Nat} {e : TypeId} {size n : Nat} {v : Value} {xs : List Value} (h : w.ownsRow base e size v n xs) (hs : ∀ k, v.ownBlock = some k → w'.heap[k]? = w.heap[k]?) : w'.ownsRow base e size v n xs := by
  refine ⟨h.1, ?_⟩
  rcases h.2 with hn | ⟨g, cap, cur, rfl, hg, hgg, rest⟩
  · exact .inl hn
  · exact .inr ⟨g, cap, cur, rfl, hg, (hs g rfl).trans hgg, rest⟩
section
variable {w w1 : World} {base b : Nat} {P : Nat → Prop} {li : List (List Nd)} {x : List Nd} {op : List (Nm × List Atr)} {gn cn : Nat} {vo v : Value} {lv : List Value} {oe : List Oent}
theorem set_last (l : List Value) (a c : Value) : (l ++ [a]).set l.length c = l ++ [c] := by simp
end
theorem own_pre {w : World} {base : Nat} {e : TypeId} {sz n m g cap : Nat} {xs ys : List Value} (h : w.ownsRow base e sz (.slice (some ⟨g, 0, none⟩) m cap) m (xs ++ ys)) (hx : xs.length = n * sz) (hn : n ≤ m) : w.ownsRow base e sz (.slice (some ⟨g, 0, none⟩) n cap) n xs := by
  rcases h.2 with ⟨h', _⟩ | ⟨g', cap', cur, h', hb, hg, hnc, hcm, hcs, htake⟩
  · simp at h'
  · simp only [Value.slice.injEq, Option.some.injEq, Addr.mk.injEq, and_true, true_and] at h'
    obtain ⟨rfl, rfl⟩ := h'
    refine ⟨hx, .inr ⟨g, cap, cur, rfl, hb, hg, by omega, hcm, hcs, ?_⟩⟩
    have : (cur.toList.take (m * sz)).take (n * sz) = xs := by rw [htake, ← hx, List.take_left]
    rw [List.take_take, Nat.min_eq_left (Nat.mul_le_mul_right _ hn)] at this
    exact this
theorem own_some {w : World} {base : Nat} {e : TypeId} {sz n : Nat} {v : Value} {xs : List Value} (h : w.ownsRow base e sz v (n + 1) xs) : ∃ g c, v = .slice (some ⟨g, 0, none⟩) (n + 1) c ∧ n + 1 ≤ c := by
  rcases h.2 with ⟨_, h0⟩ | ⟨g, cap, cur, rfl, _, _, hc, _⟩
  · omega
  · exact ⟨g, cap, rfl, hc⟩
/-- Of a value that grew. -/
theorem Grew.blk {w w' : World} {v v' : Value} (h : Grew w w' v v') : v'.ownBlock = v.ownBlock ∨ ∃ k, v'.ownBlock = some k ∧ w.heap.size ≤ k := by
  rcases h with ⟨e, _⟩ | ⟨_, h⟩
  · exact .inl e
  · exact .inr h
theorem Grew.size {w w' : World} {v v' : Value} (h : Grew w w' v v') : w.heap.size ≤ w'.heap.size := by
  rcases h with ⟨_, h⟩ | ⟨h, _⟩ <;> exact h.size
theorem Grew.other {w w' : World} {v v' : Value} (h : Grew w w' v v') : ∀ k, k < w.heap.size → v.ownBlock ≠ some k → w'.heap[k]? = w.heap[k]? := by
  intro k hk hn
  rcases h with ⟨_, h⟩ | ⟨h, _⟩
  · exact h.block k hk (Ne.symm hn)
  · exact h.block k hk (by simp)
theorem heap_b0 {w : World} {b : Nat} {a c : Value} {t : TypeId} (h : w.heap[b]? = some (.cells #[a, c] t (0, 0))) (u : Value) : (w.setCell ⟨b, 0, none⟩ u).heap[b]? = some (.cells #[u, c] t (0, 0)) := by
  simp [World.setCell, h, Array.getElem?_modify]
theorem heap_b1 {w : World} {b : Nat} {a c : Value} {t : TypeId} (h : w.heap[b]? = some (.cells #[a, c] t (0, 0))) (u : Value) : (w.setCell ⟨b, 1, none⟩ u).heap[b]? = some (.cells #[a, u] t (0, 0)) := by
  simp [World.setCell, h, Array.getElem?_modify]
section
variable {w w1 : World} {base b : Nat} {P : Nat → Prop} {li : List (List Nd)} {x : List Nd} {op : List (Nm × List Atr)} {gn cn : Nat} {vo v : Value} {lv : List Value} {oe : List Oent}
end
/-- A builder's levels, and those that are open, the outermost first. -/
def lsX (r : List Nd) : List (Nm × List Atr × List Nd) → List Nd
  | [] => r
  | (_, _, k) :: _ => k
def lsI (r : List Nd) : List (Nm × List Atr × List Nd) → List (List Nd)
  | [] => []
  | _ :: f => lsI r f ++ [lsX r f]
def opO : List (Nm × List Atr × List Nd) → List (Nm × List Atr)
  | [] => []
  | (n, a, _) :: f => opO f ++ [(n, a)]
theorem lsI_len (r : List Nd) (f : List (Nm × List Atr × List Nd)) : (lsI r f).length = f.length := by
  induction f with
  | nil => rfl
  | cons c f ih => simp [lsI, ih]
theorem opO_len (f : List (Nm × List Atr × List Nd)) : (opO f).length = f.length := by
  induction f with
  | nil => rfl
  | cons c f ih => obtain ⟨n, a, k⟩ := c; simp [opO, ih]
theorem opO_nms (f : List (Nm × List Atr × List Nd)) : (opO f).map (·.1) = (f.map (·.1)).reverse := by
  induction f with
  | nil => rfl
  | cons c f ih => obtain ⟨n, a, k⟩ := c; simp [opO, ih]
theorem put_ls (s : St) (d : Nd) : lsI (put s d).1 (put s d).2 = lsI s.1 s.2 ∧ lsX (put s d).1 (put s d).2 = pt (lsX s.1 s.2) d ∧ opO (put s d).2 = opO s.2 := by
  obtain ⟨r, f⟩ := s
  cases f with
  | nil => exact ⟨rfl, rfl, rfl⟩
  | cons c f => obtain ⟨n, a, k⟩ := c; exact ⟨rfl, rfl, rfl⟩
theorem Grew.set {w w1 : World} {v v' : Value} (h : Grew w w1 v v') {g : Nat} (hg : v'.ownBlock = some g) (o : Nat) (u : Value) : Grew w (w1.setCell ⟨g, o, none⟩ u) v v' := by
  have hS : ∀ k, k ≠ g → (w1.setCell ⟨g, o, none⟩ u).heap[k]? = w1.heap[k]? := fun k hk => Below.heap_setCell w1 ⟨g, o, none⟩ u k hk
  have hs : (w1.setCell ⟨g, o, none⟩ u).heap.size = w1.heap.size := by simp
  rcases h with ⟨e, h⟩ | ⟨h, k, e, hk⟩
  · refine .inl ⟨e, ⟨h.os, h.tape, h.output, by rw [hs]; exact h.size, fun j hj hn => ?_⟩⟩
    rw [hS j (fun e2 => hn (by rw [← e, hg, e2]))]
    exact h.block j hj hn
  · rw [hg] at e; obtain rfl : g = k := Option.some.inj e
    refine .inr ⟨⟨h.os, h.tape, h.output, by rw [hs]; exact h.size, fun j hj hn => ?_⟩, g, hg, hk⟩
    rw [hS j (by omega)]
    exact h.block j hj hn
theorem Grew.of_bl {w w0 w1 : World} {v v' : Value} (h : Grew w0 w1 v v') (hb : Bl w w0) : Grew w w1 v v' := by
  rcases h with ⟨e, h⟩ | ⟨h, k, e, hk⟩
  · exact .inl ⟨e, ⟨h.os.trans (Below.os hb), h.tape.trans (Below.tape hb), h.output.trans (Below.output hb), Nat.le_trans (Below.size hb) h.size, fun j hj hn => (h.block j (Nat.lt_of_lt_of_le hj (Below.size hb)) hn).trans (Below.block hb j hj)⟩⟩
  · exact .inr ⟨⟨h.os.trans (Below.os hb), h.tape.trans (Below.tape hb), h.output.trans (Below.output hb), Nat.le_trans (Below.size hb) h.size, fun j hj hn => (h.block j (Nat.lt_of_lt_of_le hj (Below.size hb)) hn).trans (Below.block hb j hj)⟩, k, e, Nat.le_trans (Below.size hb) hk⟩
theorem Grew.below {w w1 : World} {v v' : Value} (h : Grew w w1 v v') {base : Nat} (hv : ∀ k, v.ownBlock = some k → base ≤ k) (hb : base ≤ w.heap.size) : Below base w w1 := by
  rcases h with ⟨e, h⟩ | ⟨h, _⟩
  · exact ⟨h.os, h.tape, h.output, h.size, fun k hk => h.block k (by omega) (fun e => by have := hv k e.symm; omega)⟩
  · exact ⟨h.os, h.tape, h.output, h.size, fun k hk => h.block k (by omega) (by simp)⟩
theorem list_put4 (xs : List Value) (n : Nat) (a0 a1 a2 a3 b0 b1 b2 b3 : Value) (h : xs.length = n * 4) : ((((xs ++ [a0, a1, a2, a3]).set (n * 4) b0).set (n * 4 + 1) b1).set (n * 4 + 2) b2).set (n * 4 + 3) b3 = xs ++ [b0, b1, b2, b3] := by
  rw [List.set_append_right _ _ (by omega), List.set_append_right _ _ (by omega), List.set_append_right _ _ (by omega), List.set_append_right _ _ (by omega), h, show n * 4 - n * 4 = 0 by omega, show n * 4 + 1 - n * 4 = 1 by omega, show n * 4 + 2 - n * 4 = 2 by omega, show n * 4 + 3 - n * 4 = 3 by omega]
  rfl
theorem own_put4 {w : World} {base g n c : Nat} {e : TypeId} {xs : List Value} {a0 a1 a2 a3 : Value} (h : w.ownsRow base e 4 (.slice (some ⟨g, 0, none⟩) (n + 1) c) (n + 1) (xs ++ [a0, a1, a2, a3])) (hx : xs.length = n * 4) (b0 b1 b2 b3 : Value) :
    ((((w.setCell ⟨g, n * 4, none⟩ b0).setCell ⟨g, n * 4 + 1, none⟩ b1).setCell ⟨g, n * 4 + 2, none⟩ b2).setCell ⟨g, n * 4 + 3, none⟩ b3).ownsRow base e 4 (.slice (some ⟨g, 0, none⟩) (n + 1) c) (n + 1) (xs ++ [b0, b1, b2, b3]) := by
  have h1 := (World.ownsRow.stored h (n * 4) b0).1
  have h2 := (World.ownsRow.stored h1 (n * 4 + 1) b1).1
  have h3 := (World.ownsRow.stored h2 (n * 4 + 2) b2).1
  have h4 := (World.ownsRow.stored h3 (n * 4 + 3) b3).1
  rw [list_put4 xs n a0 a1 a2 a3 b0 b1 b2 b3 hx] at h4
  exact h4
theorem Grew.put4 {w w1 : World} {v v' : Value} (h : Grew w w1 v v') {g : Nat} (hg : v'.ownBlock = some g) (o0 o1 o2 o3 : Nat) (b0 b1 b2 b3 : Value) :
    Grew w ((((w1.setCell ⟨g, o0, none⟩ b0).setCell ⟨g, o1, none⟩ b1).setCell ⟨g, o2, none⟩ b2).setCell ⟨g, o3, none⟩ b3) v v' := (((h.set hg o0 b0).set hg o1 b1).set hg o2 b2).set hg o3 b3
end Go.Proofs.YtkacjnifhmgeiaaGreatDoor

namespace Go.Proofs.YtkacjnifhmgeiaaGreatDoor
open Go.RowKit

theorem abI_some {nm : Nm} {p : Nm → Bool} {l : List Nm} {i : Nat} (h : abv nm p l.reverse = some i) : abI nm p l = i ∧ i < l.length := by
  refine ⟨by unfold abI; rw [h], ?_⟩
  have := abv_lt _ _ _ _ h
  simpa using this
theorem abI_none {nm : Nm} {p : Nm → Bool} {l : List Nm} (h : abv nm p l.reverse = none) : abI nm p l = -1 := by unfold abI; rw [h]
theorem StS.take {w : World} {g o c : Nat} {l : List Nm} (h : StS w (.slice (some ⟨g, o, none⟩) l.length c) l) (k : Nat) (hk : k ≤ l.length) : StS w (.slice (some ⟨g, o, none⟩) k c) (l.take k) := by
  obtain ⟨ao, cap, e, hc, h⟩ := h
  cases e
  have hl : (l.take k).length = k := by simp; omega
  refine ⟨_, _, by rw [hl], by omega, fun i hi => ?_⟩
  rw [hl] at hi
  obtain ⟨g', o', e, h1, h2⟩ := h i (by omega)
  cases e
  exact ⟨g, o, rfl, h1, by simpa using h2⟩
/-- How many stay open, of names the outermost first. -/
def stI (l : List Nm) (nm : Nm) : Nat := cls l.reverse nm
theorem rev_take (l : List Nm) (i : Nat) (_h : i ≤ l.length) : (l.take i).reverse = l.reverse.drop (l.length - i) := by
  rw [List.reverse_take]
theorem cls_pl {r : List Nm} {nm : Nm} (hb : blkN nm = false) : cls r nm = r.length := by
  have h : nm ≠ sLi := by rintro rfl; revert hb; decide
  unfold cls cls1
  rw [if_neg h, if_neg (by simp [hb])]
theorem cls_bk {r : List Nm} {nm : Nm} (hb : blkN nm = true) (h : nm ≠ sLi) : cls r nm = (abv sP wallN r).getD r.length := by
  unfold cls cls1
  rw [if_neg h, if_pos hb]
theorem cls_li {r : List Nm} : cls r sLi = (abv sLi ulolN (r.drop (r.length - (abv sP wallN r).getD r.length))).getD ((abv sP wallN r).getD r.length) := by
  unfold cls cls1
  rw [if_pos rfl, if_pos (by decide)]
end Go.Proofs.YtkacjnifhmgeiaaGreatDoor

namespace Go.Proofs.YtkacjnifhmgeiaaGreatDoor
open Go.RowKit

theorem bel_gr {w W : World} {g : Option Nat} {k : Nat} (h : w.grownBy W g) (hk : ∀ j, g = some j → k ≤ j) (hs : k ≤ w.heap.size) : Below k w W :=
  ⟨h.os, h.tape, h.output, h.size, fun i hi => h.block i (by omega) (fun e => by have := hk i e.symm; omega)⟩
theorem new_cells2 (w : World) (o : Obj) (c : Array Value) (e : TypeId) : ∀ j u, c.toList[j]? = some u → ((w.alloc o).alloc (.cells c e)).cell? ((⟨w.heap.size + 1, 0, none⟩ : Addr).add j) = some u := by
  have := new_cells (w.alloc o) c e
  simpa using this
theorem Tryz.infoStr : (Tryz.prog.info? 9).map (fun i => (i.zero, i.size, i.bytes)) = some (some (.string ⟨#[]⟩), 1, 16) := by kernel_rfl
def strV (l : List Nm) : List Value := l.map fun n => .string ⟨n.toArray⟩
theorem strV_snoc (l : List Nm) (n : Nm) : strV (l ++ [n]) = strV l ++ [.string ⟨n.toArray⟩] := by simp [strV]
/-- Own texts read as texts. -/
theorem own_sts {w : World} {base : Nat} {v : Value} {l : List Nm} (h : w.ownsRow base 9 1 v l.length (strV l)) : StS w v l := by
  have h' := h
  rcases h.2 with ⟨rfl, h0⟩ | ⟨g, cap, cur, rfl, -, hg, hnc, -⟩
  · have : l = [] := List.eq_nil_of_length_eq_zero h0
    subst this
    exact ⟨none, 0, rfl, Nat.le_refl _, fun i hi => absurd hi (by simp)⟩
  · refine ⟨_, _, rfl, hnc, fun i hi => ⟨g, 0, rfl, (Array.getElem?_eq_some_iff.1 hg).1, ?_⟩⟩
    have := World.ownsRow.cellAt h' i (by omega)
    rw [Nat.zero_add, this]
    simp [strV, hi]
end Go.Proofs.YtkacjnifhmgeiaaGreatDoor

/- Trees in memory: what is read; the call's own. · Trees: kinds of elements; how many stay open. · Trees: a builder in memory. · Trees: stays; names; put; close. · Trees: names of those that are open. · Trees: put. · Trees: put, a text (printed by a program from put of an element). · Trees: close. · Trees: put, a text (printed by a program from put of an element). · Trees: put, a text (printed by a program from put of an element). · Tokens: attributes that are read. · Trees: slices.Clone of attributes; put of a text. · Tokens: the call's own tokens in memory; flush. · Tokens: tag; step. · Trees: a row appended to an own row; attributes cloned as an own row. -/
import Derived.Test.YtkacjnifhmgeiaaGreatDoorGrpE
import Derived.Test.YtkacjnifhmgeiaaGreatDoorTreB
import Derived.Test.YtkacjnifhmgeiaaGreatDoorGrpH
import Derived.BigRegion
import Derived.RegionTactic
import Derived.Deep.Cut
import Derived.Deep.CutRange
import Derived.Deep.DeepCutAuto
import Derived.Deep.RegionLaw
import Derived.Laws.OwnMore

namespace Go.Proofs.YtkacjnifhmgeiaaGreatDoor
open Go.RowKit

/-- A slice of attributes, in a block of some. -/
def AtP (w : World) (P : Nat → Prop) (v : Value) (l : List Atr) : Prop :=
  ∃ ao cap, v = .slice ao l.length cap ∧ l.length ≤ cap ∧ ∀ i (h : i < l.length), ∃ g o, ao = some ⟨g, o, none⟩ ∧ g < w.heap.size ∧ P g ∧ w.cell? ⟨g, o + i * 2, none⟩ = some (.string ⟨l[i].1.toArray⟩) ∧ w.cell? ⟨g, o + i * 2 + 1, none⟩ = some (.string ⟨l[i].2.toArray⟩)
theorem AtP.ats {w : World} {P : Nat → Prop} {v : Value} {l : List Atr} (h : AtP w P v l) : AtS w v l := by
  obtain ⟨ao, cap, rfl, hc, h⟩ := h
  exact ⟨ao, cap, rfl, fun i hi => by obtain ⟨g, o, h1, h2, _, h3, h4⟩ := h i hi; exact ⟨g, o, h1, h2, h3, h4⟩⟩
theorem AtP.cap {w : World} {P : Nat → Prop} {v : Value} {l : List Atr} (h : AtP w P v l) : CapOk v := by
  obtain ⟨ao, cap, rfl, hc, h⟩ := h; exact ⟨_, _, _, rfl, hc⟩
theorem AtP.nil (w : World) (P : Nat → Prop) : AtP w P (.slice none 0 0) [] := ⟨none, 0, rfl, Nat.le_refl _, fun i hi => absurd hi (by simp)⟩
theorem AtP.mono {w : World} {P Q : Nat → Prop} {v : Value} {l : List Atr} (h : AtP w P v l) (hPQ : ∀ k, P k → Q k) : AtP w Q v l := by
  obtain ⟨ao, cap, rfl, hc, h⟩ := h
  exact ⟨ao, cap, rfl, hc, fun i hi => by obtain ⟨g, o, h1, h2, h5, h3, h4⟩ := h i hi; exact ⟨g, o, h1, h2, hPQ _ h5, h3, h4⟩⟩
theorem AtP.of {w : World} {v : Value} {l : List Atr} (h : AtS w v l) (hc : CapOk v) : AtP w (· < w.heap.size) v l := by
  obtain ⟨ao, cap, rfl, h⟩ := h
  obtain ⟨_, _, _, e, hc⟩ := hc
  cases e
  exact ⟨ao, cap, rfl, hc, fun i hi => by obtain ⟨g, o, h1, h2, h3, h4⟩ := h i hi; exact ⟨g, o, h1, h2, h2, h3, h4⟩⟩
/-- The blocks of P are as they were. -/
structure Still (P : Nat → Prop) (w w' : World) : Prop where
  size : w.heap.size ≤ w'.heap.size
  block : ∀ k, k < w.heap.size → P k → w'.heap[k]? = w.heap[k]?
theorem Still.refl (P : Nat → Prop) (w : World) : Still P w w := ⟨Nat.le_refl _, fun _ _ _ => rfl⟩
theorem Still.trans {P : Nat → Prop} {a b c : World} (h : Still P a b) (k : Still P b c) : Still P a c :=
  ⟨Nat.le_trans h.size k.size, fun i hi hp => (k.block i (Nat.lt_of_lt_of_le hi h.size) hp).trans (h.block i hi hp)⟩
theorem Still.of_bl {P : Nat → Prop} {w w' : World} (h : Bl w w') : Still P w w' := ⟨Below.size h, fun k hk _ => Below.block h k hk⟩
theorem Still.of_gr {P : Nat → Prop} {w w' : World} {g : Option Nat} (h : w.grownBy w' g) (hg : ∀ k, g = some k → ¬ P k) : Still P w w' :=
  ⟨h.size, fun k hk hp => h.block k hk (fun e => hg k e.symm hp)⟩
theorem Still.mono {P Q : Nat → Prop} {w w' : World} (h : Still P w w') (hQ : ∀ k, Q k → P k) : Still Q w w' := ⟨h.size, fun k hk hq => h.block k hk (hQ k hq)⟩
theorem Still.set {P : Nat → Prop} (w : World) (b o : Nat) (v : Value) (hb : ¬ P b) : Still P w (w.setCell ⟨b, o, none⟩ v) :=
  ⟨by simp, fun k hk hp => by
    have : b ≠ k := fun e => hb (e ▸ hp)
    unfold World.setCell
    simp [Array.getElem?_modify, this]⟩
theorem Still.cell {P : Nat → Prop} {w w' : World} (h : Still P w w') {g o : Nat} (hg : g < w.heap.size) (hp : P g) : w'.cell? ⟨g, o, none⟩ = w.cell? ⟨g, o, none⟩ :=
  World.cell?_of_block (h.block g hg hp)
theorem AtP.still {w w' : World} {P : Nat → Prop} {v : Value} {l : List Atr} (h : AtP w P v l) (hs : Still P w w') : AtP w' P v l := by
  obtain ⟨ao, cap, rfl, hc, h⟩ := h
  exact ⟨ao, cap, rfl, hc, fun i hi => by obtain ⟨g, o, h1, h2, h5, h3, h4⟩ := h i hi; exact ⟨g, o, h1, Nat.lt_of_lt_of_le h2 hs.size, h5, (hs.cell h2 h5).trans h3, (hs.cell h2 h5).trans h4⟩⟩

mutual
/-- Four cells read as a node, all that it leads to in blocks of P. -/
def NdC (w : World) (P : Nat → Prop) (g o : Nat) : Nd → Prop
  | .mk n a x k => ∃ va ak ck, w.cell? ⟨g, o, none⟩ = some (.string ⟨n.toArray⟩) ∧ w.cell? ⟨g, o + 1, none⟩ = some va ∧ w.cell? ⟨g, o + 2, none⟩ = some (.string ⟨x.toArray⟩) ∧
      w.cell? ⟨g, o + 3, none⟩ = some (.slice ak k.length ck) ∧ AtP w P va a ∧ k.length ≤ ck ∧ (k ≠ [] → ∃ g' o', ak = some ⟨g', o', none⟩ ∧ g' < w.heap.size ∧ P g' ∧ NdL w P g' o' k)
def NdL (w : World) (P : Nat → Prop) (g o : Nat) : List Nd → Prop
  | [] => True
  | d :: l => NdC w P g o d ∧ NdL w P g (o + 4) l
end
/-- A slice reads as these nodes. -/
def NdS (w : World) (P : Nat → Prop) (v : Value) (l : List Nd) : Prop :=
  ∃ ao cap, v = .slice ao l.length cap ∧ l.length ≤ cap ∧ (l ≠ [] → ∃ g o, ao = some ⟨g, o, none⟩ ∧ g < w.heap.size ∧ P g ∧ NdL w P g o l)
theorem NdC_mk {w : World} {P : Nat → Prop} {g o : Nat} {d : Nd} : NdC w P g o d ↔ ∃ va vk, w.cell? ⟨g, o, none⟩ = some (.string ⟨d.n.toArray⟩) ∧ w.cell? ⟨g, o + 1, none⟩ = some va ∧ w.cell? ⟨g, o + 2, none⟩ = some (.string ⟨d.x.toArray⟩) ∧
      w.cell? ⟨g, o + 3, none⟩ = some vk ∧ AtP w P va d.a ∧ NdS w P vk d.k := by
  cases d with
  | mk n a x k =>
    simp only [NdC, NdS, Nd.n, Nd.a, Nd.x, Nd.k]
    constructor
    · rintro ⟨va, ak, ck, h1, h2, h3, h4, h5, h6, h7⟩
      exact ⟨va, _, h1, h2, h3, h4, h5, ak, ck, rfl, h6, h7⟩
    · rintro ⟨va, vk, h1, h2, h3, h4, h5, ak, ck, rfl, h6, h7⟩
      exact ⟨va, ak, ck, h1, h2, h3, h4, h5, h6, h7⟩
theorem NdL_iff {w : World} {P : Nat → Prop} {g : Nat} (l : List Nd) : ∀ o : Nat, NdL w P g o l ↔ ∀ i (h : i < l.length), NdC w P g (o + i * 4) l[i] := by
  induction l with
  | nil => intro o; simp [NdL]
  | cons d l ih =>
    intro o
    simp only [NdL, ih]
    constructor
    · rintro ⟨h1, h2⟩ i hi
      cases i with
      | zero => simpa using h1
      | succ i =>
        have := h2 i (by simpa using hi)
        simp only [List.getElem_cons_succ]
        rw [show o + (i + 1) * 4 = o + 4 + i * 4 by omega]
        exact this
    · intro h
      refine ⟨by have := h 0 (by simp); rw [Nat.zero_mul, Nat.add_zero] at this; exact this, fun i hi => ?_⟩
      have := h (i + 1) (by simpa using hi)
      simp only [List.getElem_cons_succ] at this
      rw [show o + 4 + i * 4 = o + (i + 1) * 4 by omega]
      exact this
theorem NdS.nil (w : World) (P : Nat → Prop) : NdS w P (.slice none 0 0) [] := ⟨none, 0, rfl, Nat.le_refl _, fun h => absurd rfl h⟩
theorem NdL.mono {w w' : World} {P Q : Nat → Prop} (hs : Still P w w') (hPQ : ∀ k, P k → Q k) (l : List Nd) : ∀ g o, g < w.heap.size → P g → NdL w P g o l → NdL w' Q g o l := by
  induction l using Nd.ind with
  | h0 => intro g o _ _ _; trivial
  | h1 n a x k l ik il =>
    intro g o hg hp h
    simp only [NdL, NdC] at h ⊢
    obtain ⟨⟨va, ak, ck, h1, h2, h3, h4, h5, h6, h7⟩, h8⟩ := h
    refine ⟨⟨va, ak, ck, (hs.cell hg hp).trans h1, (hs.cell hg hp).trans h2, (hs.cell hg hp).trans h3, (hs.cell hg hp).trans h4, (h5.still hs).mono hPQ, h6, fun hk => ?_⟩, il g _ hg hp h8⟩
    obtain ⟨g', o', e, g1, g2, g3⟩ := h7 hk
    exact ⟨g', o', e, Nat.lt_of_lt_of_le g1 hs.size, hPQ _ g2, ik g' o' g1 g2 g3⟩
theorem NdS.mono {w : World} {P Q : Nat → Prop} {v : Value} {l : List Nd} (h : NdS w P v l) (hPQ : ∀ k, P k → Q k) : NdS w Q v l := by
  obtain ⟨ao, cap, rfl, hc, h⟩ := h
  refine ⟨ao, cap, rfl, hc, fun hl => ?_⟩
  obtain ⟨g, o, e, g1, g2, g3⟩ := h hl
  exact ⟨g, o, e, g1, hPQ _ g2, NdL.mono (Still.refl _ _) hPQ l g o g1 g2 g3⟩
theorem NdS.still {w w' : World} {P : Nat → Prop} {v : Value} {l : List Nd} (h : NdS w P v l) (hs : Still P w w') : NdS w' P v l := by
  obtain ⟨ao, cap, rfl, hc, h⟩ := h
  refine ⟨ao, cap, rfl, hc, fun hl => ?_⟩
  obtain ⟨g, o, e, g1, g2, g3⟩ := h hl
  exact ⟨g, o, e, Nat.lt_of_lt_of_le g1 hs.size, g2, NdL.mono hs (fun _ h => h) l g o g1 g2 g3⟩
theorem NdS.of_bl {w w' : World} {P : Nat → Prop} {v : Value} {l : List Nd} (h : NdS w P v l) (hb : Bl w w') : NdS w' P v l := h.still (Still.of_bl hb)
theorem NdS.get {w : World} {P : Nat → Prop} {v : Value} {l : List Nd} (h : NdS w P v l) : ∃ ao cap, v = .slice ao l.length cap ∧ l.length ≤ cap ∧
    ∀ i (hi : i < l.length), ∃ g o va vk, ao = some ⟨g, o, none⟩ ∧ g < w.heap.size ∧ P g ∧ w.cell? ⟨g, o + i * 4, none⟩ = some (.string ⟨l[i].n.toArray⟩) ∧ w.cell? ⟨g, o + i * 4 + 1, none⟩ = some va ∧
      w.cell? ⟨g, o + i * 4 + 2, none⟩ = some (.string ⟨l[i].x.toArray⟩) ∧ w.cell? ⟨g, o + i * 4 + 3, none⟩ = some vk ∧ AtP w P va l[i].a ∧ NdS w P vk l[i].k := by
  obtain ⟨ao, cap, rfl, hc, h⟩ := h
  refine ⟨ao, cap, rfl, hc, fun i hi => ?_⟩
  obtain ⟨g, o, e, g1, g2, g3⟩ := h (by rintro rfl; simp at hi)
  obtain ⟨va, vk, q⟩ := NdC_mk.1 ((NdL_iff l o).1 g3 i hi)
  exact ⟨g, o, va, vk, e, g1, g2, q⟩

/-- The call's own nodes: each with the values of its attributes and of its kids. -/
abbrev Nent := Nd × Value × Value
def ndV (l : List Nent) : List Value := l.flatMap fun p => [.string ⟨p.1.n.toArray⟩, p.2.1, .string ⟨p.1.x.toArray⟩, p.2.2]
theorem ndV_snoc (l : List Nent) (p : Nent) : ndV (l ++ [p]) = ndV l ++ [.string ⟨p.1.n.toArray⟩, p.2.1, .string ⟨p.1.x.toArray⟩, p.2.2] := by simp [ndV]
theorem ndV_len (l : List Nent) : (ndV l).length = l.length * 4 := by
  induction l with
  | nil => rfl
  | cons a l ih => simp only [ndV, List.flatMap_cons, List.length_append, List.length_cons, List.length_nil] at *; omega
theorem ndV_get : ∀ (l : List Nent) (i : Nat) (h : i < l.length), (ndV l)[i * 4]? = some (.string ⟨l[i].1.n.toArray⟩) ∧ (ndV l)[i * 4 + 1]? = some l[i].2.1 ∧ (ndV l)[i * 4 + 2]? = some (.string ⟨l[i].1.x.toArray⟩) ∧ (ndV l)[i * 4 + 3]? = some l[i].2.2 := by
  intro l
  induction l with
  | nil => intro i h; simp at h
  | cons a l ih =>
    intro i h
    cases i with
    | zero => simp [ndV]
    | succ i =>
      have := ih i (by simpa using h)
      have e : (i + 1) * 4 = i * 4 + 1 + 1 + 1 + 1 := by omega
      rw [e]
      simp only [ndV, List.flatMap_cons, List.cons_append, List.nil_append, List.getElem?_cons_succ, List.getElem_cons_succ] at *
      exact this
structure NdO (w : World) (base : Nat) (P : Nat → Prop) (v : Value) (l : List Nd) (ents : List Nent) : Prop where
  eq : ents.map (·.1) = l
  row : w.ownsRow base 25 4 v ents.length (ndV ents)
  low : ∀ k, v.ownBlock = some k → ¬ P k
  all : ∀ p ∈ ents, AtP w P p.2.1 p.1.a ∧ NdS w P p.2.2 p.1.k
theorem NdO.nil (w : World) (base : Nat) (P : Nat → Prop) : NdO w base P (.slice none 0 0) [] [] := ⟨rfl, World.ownsRow_nil _ _ _ _, fun k h => by simp [Value.ownBlock] at h, fun p h => by cases h⟩
theorem NdO.len {w : World} {base : Nat} {P : Nat → Prop} {v : Value} {l : List Nd} {ents : List Nent} (h : NdO w base P v l ents) : ents.length = l.length := by rw [← h.eq]; simp
theorem NdO.still {w w' : World} {base : Nat} {P : Nat → Prop} {v : Value} {l : List Nd} {ents : List Nent} (h : NdO w base P v l ents) (hs : Still (fun k => P k ∨ v.ownBlock = some k) w w') : NdO w' base P v l ents := by
  have hP : Still P w w' := hs.mono fun k hk => .inl hk
  refine ⟨h.eq, ⟨h.row.1, ?_⟩, h.low, fun p hp => ⟨(h.all p hp).1.still hP, (h.all p hp).2.still hP⟩⟩
  rcases h.row.2 with hn | ⟨g, cap, cur, rfl, hg, hgg, rest⟩
  · exact .inl hn
  · refine .inr ⟨g, cap, cur, rfl, hg, ?_, rest⟩
    rw [hs.block g (Array.getElem?_eq_some_iff.1 hgg).1 (.inr rfl)]
    exact hgg
theorem NdO.of_bl {w w' : World} {base : Nat} {P : Nat → Prop} {v : Value} {l : List Nd} {ents : List Nent} (h : NdO w base P v l ents) (hb : Bl w w') : NdO w' base P v l ents := h.still (Still.of_bl hb)
theorem NdO.mono {w : World} {base : Nat} {P Q : Nat → Prop} {v : Value} {l : List Nd} {ents : List Nent} (h : NdO w base P v l ents) (hPQ : ∀ k, P k → Q k) (hQ : ∀ k, v.ownBlock = some k → ¬ Q k) : NdO w base Q v l ents :=
  ⟨h.eq, h.row, hQ, fun p hp => ⟨(h.all p hp).1.mono hPQ, (h.all p hp).2.mono hPQ⟩⟩
theorem NdO.lt {w : World} {base : Nat} {P : Nat → Prop} {v : Value} {l : List Nd} {ents : List Nent} (h : NdO w base P v l ents) : ∀ k, v.ownBlock = some k → base ≤ k ∧ k < w.heap.size := World.ownsRow.lt h.row
/-- Own nodes that are written no more. -/
theorem NdO.nds {w : World} {base : Nat} {P : Nat → Prop} {v : Value} {l : List Nd} {ents : List Nent} (h : NdO w base P v l ents) : NdS w (fun k => P k ∨ v.ownBlock = some k) v l := by
  obtain ⟨rfl, h2, h3, h4⟩ := h
  have h' := h2
  rcases h2.2 with ⟨rfl, h0⟩ | ⟨g, cap, cur, rfl, -, hg, hnc, -⟩
  · have : ents = [] := List.eq_nil_of_length_eq_zero h0
    subst this
    exact NdS.nil _ _
  · refine ⟨some ⟨g, 0, none⟩, cap, by simp, by simpa using hnc, fun _ => ⟨g, 0, rfl, (Array.getElem?_eq_some_iff.1 hg).1, .inr rfl, (NdL_iff _ _).2 fun i hi => ?_⟩⟩
    have hi' : i < ents.length := by simpa using hi
    obtain ⟨t1, t2, t3, t4⟩ := ndV_get ents i hi'
    have key := fun j u (h : (ndV ents)[j]? = some u) => (World.ownsRow.cellAt h' j (by have := List.getElem?_eq_some_iff.1 h; obtain ⟨q, _⟩ := this; rw [ndV_len] at q; exact q)).trans h
    have hall := h4 ents[i] (List.getElem_mem hi')
    refine NdC_mk.2 ⟨ents[i].2.1, ents[i].2.2, ?_, ?_, ?_, ?_, ?_, ?_⟩
    · have := key _ _ t1; simpa using this
    · have := key _ _ t2; simpa using this
    · have := key _ _ t3; simpa using this
    · have := key _ _ t4; simpa using this
    · have := hall.1.mono (Q := fun k => P k ∨ Value.ownBlock (.slice (some ⟨g, 0, none⟩) ents.length cap) = some k) (fun _ h => .inl h); simpa using this
    · have := hall.2.mono (Q := fun k => P k ∨ Value.ownBlock (.slice (some ⟨g, 0, none⟩) ents.length cap) = some k) (fun _ h => .inl h); simpa using this
/-- A node more. -/
theorem NdO.snoc {w wz : World} {base : Nat} {P : Nat → Prop} {v v' : Value} {l : List Nd} {ents : List Nent} (d : Nd) (va vk : Value) (h : NdO w base P v l ents) (hP : ∀ k, P k → k < w.heap.size) (ha : AtP w P va d.a) (hk : NdS w P vk d.k)
    (hown : wz.ownsRow base 25 4 v' (ents.length + 1) (ndV ents ++ [.string ⟨d.n.toArray⟩, va, .string ⟨d.x.toArray⟩, vk])) (hg : Grew w wz v v') : NdO wz base P v' (l ++ [d]) (ents ++ [(d, va, vk)]) := by
  have hs : Still P w wz := by
    rcases hg with ⟨_, hg⟩ | ⟨hg, _⟩
    · exact Still.of_gr hg h.low
    · exact Still.of_gr hg (fun k e => by cases e)
  refine ⟨by simp [h.eq], by rw [ndV_snoc, List.length_append]; exact hown, fun k e hp => ?_, fun p hp => ?_⟩
  · rcases hg with ⟨e2, _⟩ | ⟨_, j, e2, hj⟩
    · exact h.low k (e2.symm.trans e) hp
    · have := hP k hp; rw [e2] at e; cases e; omega
  · rcases List.mem_append.1 hp with hp | hp
    · exact ⟨(h.all p hp).1.still hs, (h.all p hp).2.still hs⟩
    · rw [List.mem_singleton] at hp; subst hp; exact ⟨ha.still hs, hk.still hs⟩
theorem ndV_set (o : List Nent) (d : Nd) (va vk : Value) (y : List UInt8) : (ndV (o ++ [(d, va, vk)])).set (o.length * 4 + 2) (.string ⟨y.toArray⟩) = ndV (o ++ [(.mk d.n d.a y d.k, va, vk)]) := by
  rw [ndV_snoc, ndV_snoc, List.set_append_right _ _ (by rw [ndV_len]; omega), ndV_len, show o.length * 4 + 2 - o.length * 4 = 2 by omega]
  rfl
/-- The last one's text is written. -/
theorem NdO.settext {w : World} {base : Nat} {P : Nat → Prop} {g cap n : Nat} {l : List Nd} {d : Nd} {ents : List Nent} (h : NdO w base P (.slice (some ⟨g, 0, none⟩) n cap) (l ++ [d]) ents) (y : List UInt8) :
    ∃ ents', NdO (w.setCell ⟨g, l.length * 4 + 2, none⟩ (.string ⟨y.toArray⟩)) base P (.slice (some ⟨g, 0, none⟩) n cap) (l ++ [.mk d.n d.a y d.k]) ents' := by
  obtain ⟨h1, h2, h3, h4⟩ := h
  rcases List.eq_nil_or_concat ents with rfl | ⟨o, p, rfl⟩
  · simp at h1
  · obtain ⟨d', va, vk⟩ := p
    rw [List.concat_eq_append] at *
    rw [List.map_append, List.map_singleton] at h1
    obtain ⟨hl, e⟩ := List.append_inj' h1 rfl
    simp only [List.cons.injEq, and_true] at e
    subst e
    have hol : l.length = o.length := by rw [← hl]; simp
    rw [hol]
    have hn : n = (o ++ [(d', va, vk)]).length := by
      rcases h2.2 with ⟨e, _⟩ | ⟨g, cap, cur, e, _⟩ <;> simp at e ⊢
      omega
    subst hn
    have hst := World.ownsRow.stored h2 (o.length * 4 + 2) (.string ⟨y.toArray⟩)
    have hS : Still P w (w.setCell ⟨g, o.length * 4 + 2, none⟩ (.string ⟨y.toArray⟩)) := Still.set _ _ _ _ (h3 g rfl)
    refine ⟨o ++ [(.mk d'.n d'.a y d'.k, va, vk)], by simp [hl], ?_, h3, fun p hp => ?_⟩
    · rw [← ndV_set]
      simpa using hst.1
    · rcases List.mem_append.1 hp with hp | hp
      · have := h4 p (List.mem_append_left _ hp); exact ⟨this.1.still hS, this.2.still hS⟩
      · rw [List.mem_singleton] at hp; subst hp
        have := h4 (d', va, vk) (by simp); exact ⟨this.1.still hS, this.2.still hS⟩
end Go.Proofs.YtkacjnifhmgeiaaGreatDoor

namespace Go.Proofs.YtkacjnifhmgeiaaGreatDoor
open Go.RowKit

/-- A function that tells of a name. -/
structure DoN (N : Nat) (p : Nm → Bool) : Prop where
  cf : ∀ (args : Array Value) (W : World), Sem.run Tryz.prog (callFunc N args) W = .ok (.enter N args) W
  go : ∀ (n : Nm) W, Calls Tryz.prog N #[.string ⟨n.toArray⟩] W fun e w' => e = .returned (.bool (p n)) ∧ W = w'
/-- A slice reads as these texts. -/
def StS (w : World) (v : Value) (l : List Nm) : Prop :=
  ∃ ao cap, v = .slice ao l.length cap ∧ l.length ≤ cap ∧ ∀ i (h : i < l.length), ∃ g o, ao = some ⟨g, o, none⟩ ∧ g < w.heap.size ∧ w.cell? ⟨g, o + i, none⟩ = some (.string ⟨l[i].toArray⟩)
theorem StS.of_bl {w w' : World} {v : Value} {l : List Nm} (h : StS w v l) (hb : Bl w w') : StS w' v l := by
  obtain ⟨ao, cap, rfl, hc, h⟩ := h
  refine ⟨ao, cap, rfl, hc, fun i hi => ?_⟩
  obtain ⟨g, o, h1, h2, h3⟩ := h i hi
  exact ⟨g, o, h1, Nat.lt_of_lt_of_le h2 (Below.size hb), (hb.cells.1 g _ h2).trans h3⟩
/-- The place of the innermost one; -1: there is none. -/
def abI (nm : Nm) (p : Nm → Bool) (l : List Nm) : Int := match abv nm p l.reverse with | some i => i | none => -1
theorem abI_nil (nm : Nm) (p : Nm → Bool) : abI nm p [] = -1 := rfl
theorem abI_snoc (nm : Nm) (p : Nm → Bool) (l : List Nm) (x : Nm) : abI nm p (l ++ [x]) = if x = nm then (l.length : Int) else if p x then -1 else abI nm p l := by
  unfold abI
  rw [List.reverse_append]
  simp only [List.reverse_singleton, List.singleton_append, abv, List.length_reverse]
  by_cases h : x = nm
  · rw [if_pos h, if_pos h]
  · rw [if_neg h, if_neg h]
    by_cases h2 : p x = true
    · rw [if_pos h2, if_pos h2]
    · rw [if_neg h2, if_neg h2]
theorem str_eq (a b : Nm) : decide ((⟨a.toArray⟩ : ByteArray) = ⟨b.toArray⟩) = decide (a = b) := by simp
end Go.Proofs.YtkacjnifhmgeiaaGreatDoor

namespace Go.Proofs.YtkacjnifhmgeiaaGreatDoor
open Go.RowKit

/-- Rows that lie apart. -/
def Apt (a c : Value) : Prop := ∀ k, a.ownBlock = some k → c.ownBlock ≠ some k
/-- Those that are open: names, attributes, the attributes' value. -/
abbrev Oent := (Nm × List Atr) × Value
def opV (l : List Oent) : List Value := l.flatMap fun p => [.string ⟨p.1.1.toArray⟩, p.2, .string ⟨#[]⟩, .slice none 0 0]
theorem opV_snoc (l : List Oent) (p : Oent) : opV (l ++ [p]) = opV l ++ [.string ⟨p.1.1.toArray⟩, p.2, .string ⟨#[]⟩, .slice none 0 0] := by simp [opV]
theorem opV_len (l : List Oent) : (opV l).length = l.length * 4 := by
  induction l with
  | nil => rfl
  | cons a l ih => simp only [opV, List.flatMap_cons, List.length_append, List.length_cons, List.length_nil] at *; omega
theorem opV_get : ∀ (l : List Oent) (i : Nat) (h : i < l.length), (opV l)[i * 4]? = some (.string ⟨l[i].1.1.toArray⟩) ∧ (opV l)[i * 4 + 1]? = some l[i].2 ∧ (opV l)[i * 4 + 2]? = some (.string ⟨#[]⟩) ∧ (opV l)[i * 4 + 3]? = some (.slice none 0 0) := by
  intro l
  induction l with
  | nil => intro i h; simp at h
  | cons a l ih =>
    intro i h
    cases i with
    | zero => simp [opV]
    | succ i =>
      have := ih i (by simpa using h)
      have e : (i + 1) * 4 = i * 4 + 1 + 1 + 1 + 1 := by omega
      rw [e]
      simp only [opV, List.flatMap_cons, List.cons_append, List.nil_append, List.getElem?_cons_succ, List.getElem_cons_succ] at *
      exact this
theorem own_ty {w : World} {base : Nat} {e t : TypeId} {size n k : Nat} {v : Value} {xs : List Value} {c : Array Value} (h : w.ownsRow base e size v n xs) (hk : w.heap[k]? = some (.cells c t (0, 0))) (ht : e ≠ t) : v.ownBlock ≠ some k := by
  rcases h.2 with ⟨rfl, _⟩ | ⟨g, cap, cur, rfl, _, hg, _⟩
  · simp [Value.ownBlock]
  · simp only [Value.ownBlock, ne_eq, Option.some.injEq]
    rintro rfl
    rw [hg] at hk
    exact ht ((Obj.cells.inj (Option.some.inj hk)).2.1)
theorem own_row {w : World} {base : Nat} {e : TypeId} {size n : Nat} {v : Value} {xs : List Value} (h : w.ownsRow base e size v n xs) {k : Nat} (hk : v.ownBlock = some k) : ∃ c, w.heap[k]? = some (.cells c e (0, 0)) := by
  rcases h.2 with ⟨rfl, _⟩ | ⟨g, cap, cur, rfl, _, hg, _⟩
  · simp [Value.ownBlock] at hk
  · simp only [Value.ownBlock, Option.some.injEq] at hk; subst hk; exact ⟨_, hg⟩
theorem own_same {w w' : World} {base : Nat} {e : TypeId} {size n : Nat} {v : Value} {xs : List Value} (h : w.ownsRow base e size v n xs) (hs : ∀ k, v.ownBlock = some k → w'.heap[k]? = w.heap[k]?) : w'.ownsRow base e size v n xs := by
  refine ⟨h.1, ?_⟩
  rcases h.2 with hn | ⟨g, cap, cur, rfl, hg, hgg, rest⟩
  · exact .inl hn
  · exact .inr ⟨g, cap, cur, rfl, hg, (hs g rfl).trans hgg, rest⟩
section
variable {w w1 : World} {base b : Nat} {P : Nat → Prop} {li : List (List Nd)} {x : List Nd} {op : List (Nm × List Atr)} {gn cn : Nat} {vo v : Value} {lv : List Value} {oe : List Oent}
theorem set_last (l : List Value) (a c : Value) : (l ++ [a]).set l.length c = l ++ [c] := by simp
end
theorem own_pre {w : World} {base : Nat} {e : TypeId} {sz n m g cap : Nat} {xs ys : List Value} (h : w.ownsRow base e sz (.slice (some ⟨g, 0, none⟩) m cap) m (xs ++ ys)) (hx : xs.length = n * sz) (hn : n ≤ m) : w.ownsRow base e sz (.slice (some ⟨g, 0, none⟩) n cap) n xs := by
  rcases h.2 with ⟨h', _⟩ | ⟨g', cap', cur, h', hb, hg, hnc, hcm, hcs, htake⟩
  · simp at h'
  · simp only [Value.slice.injEq, Option.some.injEq, Addr.mk.injEq, and_true, true_and] at h'
    obtain ⟨rfl, rfl⟩ := h'
    refine ⟨hx, .inr ⟨g, cap, cur, rfl, hb, hg, by omega, hcm, hcs, ?_⟩⟩
    have : (cur.toList.take (m * sz)).take (n * sz) = xs := by rw [htake, ← hx, List.take_left]
    rw [List.take_take, Nat.min_eq_left (Nat.mul_le_mul_right _ hn)] at this
    exact this
theorem own_some {w : World} {base : Nat} {e : TypeId} {sz n : Nat} {v : Value} {xs : List Value} (h : w.ownsRow base e sz v (n + 1) xs) : ∃ g c, v = .slice (some ⟨g, 0, none⟩) (n + 1) c ∧ n + 1 ≤ c := by
  rcases h.2 with ⟨_, h0⟩ | ⟨g, cap, cur, rfl, _, _, hc, _⟩
  · omega
  · exact ⟨g, cap, rfl, hc⟩
/-- Of a value that grew. -/
theorem Grew.blk {w w' : World} {v v' : Value} (h : Grew w w' v v') : v'.ownBlock = v.ownBlock ∨ ∃ k, v'.ownBlock = some k ∧ w.heap.size ≤ k := by
  rcases h with ⟨e, _⟩ | ⟨_, h⟩
  · exact .inl e
  · exact .inr h
theorem Grew.size {w w' : World} {v v' : Value} (h : Grew w w' v v') : w.heap.size ≤ w'.heap.size := by
  rcases h with ⟨_, h⟩ | ⟨h, _⟩ <;> exact h.size
theorem Grew.other {w w' : World} {v v' : Value} (h : Grew w w' v v') : ∀ k, k < w.heap.size → v.ownBlock ≠ some k → w'.heap[k]? = w.heap[k]? := by
  intro k hk hn
  rcases h with ⟨_, h⟩ | ⟨h, _⟩
  · exact h.block k hk (Ne.symm hn)
  · exact h.block k hk (by simp)
theorem heap_b0 {w : World} {b : Nat} {a c : Value} {t : TypeId} (h : w.heap[b]? = some (.cells #[a, c] t (0, 0))) (u : Value) : (w.setCell ⟨b, 0, none⟩ u).heap[b]? = some (.cells #[u, c] t (0, 0)) := by
  simp [World.setCell, h, Array.getElem?_modify]
theorem heap_b1 {w : World} {b : Nat} {a c : Value} {t : TypeId} (h : w.heap[b]? = some (.cells #[a, c] t (0, 0))) (u : Value) : (w.setCell ⟨b, 1, none⟩ u).heap[b]? = some (.cells #[a, u] t (0, 0)) := by
  simp [World.setCell, h, Array.getElem?_modify]
section
variable {w w1 : World} {base b : Nat} {P : Nat → Prop} {li : List (List Nd)} {x : List Nd} {op : List (Nm × List Atr)} {gn cn : Nat} {vo v : Value} {lv : List Value} {oe : List Oent}
end
/-- A builder's levels, and those that are open, the outermost first. -/
def lsX (r : List Nd) : List (Nm × List Atr × List Nd) → List Nd
  | [] => r
  | (_, _, k) :: _ => k
def lsI (r : List Nd) : List (Nm × List Atr × List Nd) → List (List Nd)
  | [] => []
  | _ :: f => lsI r f ++ [lsX r f]
def opO : List (Nm × List Atr × List Nd) → List (Nm × List Atr)
  | [] => []
  | (n, a, _) :: f => opO f ++ [(n, a)]
theorem lsI_len (r : List Nd) (f : List (Nm × List Atr × List Nd)) : (lsI r f).length = f.length := by
  induction f with
  | nil => rfl
  | cons c f ih => simp [lsI, ih]
theorem opO_len (f : List (Nm × List Atr × List Nd)) : (opO f).length = f.length := by
  induction f with
  | nil => rfl
  | cons c f ih => obtain ⟨n, a, k⟩ := c; simp [opO, ih]
theorem opO_nms (f : List (Nm × List Atr × List Nd)) : (opO f).map (·.1) = (f.map (·.1)).reverse := by
  induction f with
  | nil => rfl
  | cons c f ih => obtain ⟨n, a, k⟩ := c; simp [opO, ih]
theorem put_ls (s : St) (d : Nd) : lsI (put s d).1 (put s d).2 = lsI s.1 s.2 ∧ lsX (put s d).1 (put s d).2 = pt (lsX s.1 s.2) d ∧ opO (put s d).2 = opO s.2 := by
  obtain ⟨r, f⟩ := s
  cases f with
  | nil => exact ⟨rfl, rfl, rfl⟩
  | cons c f => obtain ⟨n, a, k⟩ := c; exact ⟨rfl, rfl, rfl⟩
theorem Grew.set {w w1 : World} {v v' : Value} (h : Grew w w1 v v') {g : Nat} (hg : v'.ownBlock = some g) (o : Nat) (u : Value) : Grew w (w1.setCell ⟨g, o, none⟩ u) v v' := by
  have hS : ∀ k, k ≠ g → (w1.setCell ⟨g, o, none⟩ u).heap[k]? = w1.heap[k]? := fun k hk => Below.heap_setCell w1 ⟨g, o, none⟩ u k hk
  have hs : (w1.setCell ⟨g, o, none⟩ u).heap.size = w1.heap.size := by simp
  rcases h with ⟨e, h⟩ | ⟨h, k, e, hk⟩
  · refine .inl ⟨e, ⟨h.os, h.tape, h.output, by rw [hs]; exact h.size, fun j hj hn => ?_⟩⟩
    rw [hS j (fun e2 => hn (by rw [← e, hg, e2]))]
    exact h.block j hj hn
  · rw [hg] at e; obtain rfl : g = k := Option.some.inj e
    refine .inr ⟨⟨h.os, h.tape, h.output, by rw [hs]; exact h.size, fun j hj hn => ?_⟩, g, hg, hk⟩
    rw [hS j (by omega)]
    exact h.block j hj hn
theorem Grew.of_bl {w w0 w1 : World} {v v' : Value} (h : Grew w0 w1 v v') (hb : Bl w w0) : Grew w w1 v v' := by
  rcases h with ⟨e, h⟩ | ⟨h, k, e, hk⟩
  · exact .inl ⟨e, ⟨h.os.trans (Below.os hb), h.tape.trans (Below.tape hb), h.output.trans (Below.output hb), Nat.le_trans (Below.size hb) h.size, fun j hj hn => (h.block j (Nat.lt_of_lt_of_le hj (Below.size hb)) hn).trans (Below.block hb j hj)⟩⟩
  · exact .inr ⟨⟨h.os.trans (Below.os hb), h.tape.trans (Below.tape hb), h.output.trans (Below.output hb), Nat.le_trans (Below.size hb) h.size, fun j hj hn => (h.block j (Nat.lt_of_lt_of_le hj (Below.size hb)) hn).trans (Below.block hb j hj)⟩, k, e, Nat.le_trans (Below.size hb) hk⟩
theorem Grew.below {w w1 : World} {v v' : Value} (h : Grew w w1 v v') {base : Nat} (hv : ∀ k, v.ownBlock = some k → base ≤ k) (hb : base ≤ w.heap.size) : Below base w w1 := by
  rcases h with ⟨e, h⟩ | ⟨h, _⟩
  · exact ⟨h.os, h.tape, h.output, h.size, fun k hk => h.block k (by omega) (fun e => by have := hv k e.symm; omega)⟩
  · exact ⟨h.os, h.tape, h.output, h.size, fun k hk => h.block k (by omega) (by simp)⟩
theorem list_put4 (xs : List Value) (n : Nat) (a0 a1 a2 a3 b0 b1 b2 b3 : Value) (h : xs.length = n * 4) : ((((xs ++ [a0, a1, a2, a3]).set (n * 4) b0).set (n * 4 + 1) b1).set (n * 4 + 2) b2).set (n * 4 + 3) b3 = xs ++ [b0, b1, b2, b3] := by
  rw [List.set_append_right _ _ (by omega), List.set_append_right _ _ (by omega), List.set_append_right _ _ (by omega), List.set_append_right _ _ (by omega), h, show n * 4 - n * 4 = 0 by omega, show n * 4 + 1 - n * 4 = 1 by omega, show n * 4 + 2 - n * 4 = 2 by omega, show n * 4 + 3 - n * 4 = 3 by omega]
  rfl
theorem own_put4 {w : World} {base g n c : Nat} {e : TypeId} {xs : List Value} {a0 a1 a2 a3 : Value} (h : w.ownsRow base e 4 (.slice (some ⟨g, 0, none⟩) (n + 1) c) (n + 1) (xs ++ [a0, a1, a2, a3])) (hx : xs.length = n * 4) (b0 b1 b2 b3 : Value) :
    ((((w.setCell ⟨g, n * 4, none⟩ b0).setCell ⟨g, n * 4 + 1, none⟩ b1).setCell ⟨g, n * 4 + 2, none⟩ b2).setCell ⟨g, n * 4 + 3, none⟩ b3).ownsRow base e 4 (.slice (some ⟨g, 0, none⟩) (n + 1) c) (n + 1) (xs ++ [b0, b1, b2, b3]) := by
  have h1 := (World.ownsRow.stored h (n * 4) b0).1
  have h2 := (World.ownsRow.stored h1 (n * 4 + 1) b1).1
  have h3 := (World.ownsRow.stored h2 (n * 4 + 2) b2).1
  have h4 := (World.ownsRow.stored h3 (n * 4 + 3) b3).1
  rw [list_put4 xs n a0 a1 a2 a3 b0 b1 b2 b3 hx] at h4
  exact h4
theorem Grew.put4 {w w1 : World} {v v' : Value} (h : Grew w w1 v v') {g : Nat} (hg : v'.ownBlock = some g) (o0 o1 o2 o3 : Nat) (b0 b1 b2 b3 : Value) :
    Grew w ((((w1.setCell ⟨g, o0, none⟩ b0).setCell ⟨g, o1, none⟩ b1).setCell ⟨g, o2, none⟩ b2).setCell ⟨g, o3, none⟩ b3) v v' := (((h.set hg o0 b0).set hg o1 b1).set hg o2 b2).set hg o3 b3
end Go.Proofs.YtkacjnifhmgeiaaGreatDoor

namespace Go.Proofs.YtkacjnifhmgeiaaGreatDoor
open Go.RowKit

theorem abI_some {nm : Nm} {p : Nm → Bool} {l : List Nm} {i : Nat} (h : abv nm p l.reverse = some i) : abI nm p l = i ∧ i < l.length := by
  refine ⟨by unfold abI; rw [h], ?_⟩
  have := abv_lt _ _ _ _ h
  simpa using this
theorem abI_none {nm : Nm} {p : Nm → Bool} {l : List Nm} (h : abv nm p l.reverse = none) : abI nm p l = -1 := by unfold abI; rw [h]
theorem StS.take {w : World} {g o c : Nat} {l : List Nm} (h : StS w (.slice (some ⟨g, o, none⟩) l.length c) l) (k : Nat) (hk : k ≤ l.length) : StS w (.slice (some ⟨g, o, none⟩) k c) (l.take k) := by
  obtain ⟨ao, cap, e, hc, h⟩ := h
  cases e
  have hl : (l.take k).length = k := by simp; omega
  refine ⟨_, _, by rw [hl], by omega, fun i hi => ?_⟩
  rw [hl] at hi
  obtain ⟨g', o', e, h1, h2⟩ := h i (by omega)
  cases e
  exact ⟨g, o, rfl, h1, by simpa using h2⟩
/-- How many stay open, of names the outermost first. -/
def stI (l : List Nm) (nm : Nm) : Nat := cls l.reverse nm
theorem rev_take (l : List Nm) (i : Nat) (_h : i ≤ l.length) : (l.take i).reverse = l.reverse.drop (l.length - i) := by
  rw [List.reverse_take]
theorem cls_pl {r : List Nm} {nm : Nm} (hb : blkN nm = false) : cls r nm = r.length := by
  have h : nm ≠ sLi := by rintro rfl; revert hb; decide
  unfold cls cls1
  rw [if_neg h, if_neg (by simp [hb])]
theorem cls_bk {r : List Nm} {nm : Nm} (hb : blkN nm = true) (h : nm ≠ sLi) : cls r nm = (abv sP wallN r).getD r.length := by
  unfold cls cls1
  rw [if_neg h, if_pos hb]
theorem cls_li {r : List Nm} : cls r sLi = (abv sLi ulolN (r.drop (r.length - (abv sP wallN r).getD r.length))).getD ((abv sP wallN r).getD r.length) := by
  unfold cls cls1
  rw [if_pos rfl, if_pos (by decide)]
end Go.Proofs.YtkacjnifhmgeiaaGreatDoor

namespace Go.Proofs.YtkacjnifhmgeiaaGreatDoor
open Go.RowKit

theorem bel_gr {w W : World} {g : Option Nat} {k : Nat} (h : w.grownBy W g) (hk : ∀ j, g = some j → k ≤ j) (hs : k ≤ w.heap.size) : Below k w W :=
  ⟨h.os, h.tape, h.output, h.size, fun i hi => h.block i (by omega) (fun e => by have := hk i e.symm; omega)⟩
theorem new_cells2 (w : World) (o : Obj) (c : Array Value) (e : TypeId) : ∀ j u, c.toList[j]? = some u → ((w.alloc o).alloc (.cells c e)).cell? ((⟨w.heap.size + 1, 0, none⟩ : Addr).add j) = some u := by
  have := new_cells (w.alloc o) c e
  simpa using this
theorem Tryz.infoStr : (Tryz.prog.info? 9).map (fun i => (i.zero, i.size, i.bytes)) = some (some (.string ⟨#[]⟩), 1, 16) := by kernel_rfl
def strV (l : List Nm) : List Value := l.map fun n => .string ⟨n.toArray⟩
theorem strV_snoc (l : List Nm) (n : Nm) : strV (l ++ [n]) = strV l ++ [.string ⟨n.toArray⟩] := by simp [strV]
/-- Own texts read as texts. -/
theorem own_sts {w : World} {base : Nat} {v : Value} {l : List Nm} (h : w.ownsRow base 9 1 v l.length (strV l)) : StS w v l := by
  have h' := h
  rcases h.2 with ⟨rfl, h0⟩ | ⟨g, cap, cur, rfl, -, hg, hnc, -⟩
  · have : l = [] := List.eq_nil_of_length_eq_zero h0
    subst this
    exact ⟨none, 0, rfl, Nat.le_refl _, fun i hi => absurd hi (by simp)⟩
  · refine ⟨_, _, rfl, hnc, fun i hi => ⟨g, 0, rfl, (Array.getElem?_eq_some_iff.1 hg).1, ?_⟩⟩
    have := World.ownsRow.cellAt h' i (by omega)
    rw [Nat.zero_add, this]
    simp [strV, hi]
end Go.Proofs.YtkacjnifhmgeiaaGreatDoor

namespace Go.Proofs.YtkacjnifhmgeiaaGreatDoor
open Go.RowKit

theorem Tryz.infoNod : (Tryz.prog.info? 25).map (fun i => (i.zero, i.size, i.bytes)) = some (some (.agg #[.string ⟨#[]⟩, .slice none 0 0, .string ⟨#[]⟩, .slice none 0 0]), 4, 80) := by kernel_rfl
theorem own_bl' {w w' : World} {base : Nat} {e : TypeId} {size n : Nat} {v : Value} {xs : List Value} (h : w.ownsRow base e size v n xs) (hb : Bl w w') : w'.ownsRow base e size v n xs :=
  own_same h fun k hk => Below.block hb k (World.ownsRow.lt h k hk).2
theorem own_shp {w : World} {base : Nat} {e : TypeId} {size n : Nat} {v : Value} {xs : List Value} (h : w.ownsRow base e size v n xs) : ∃ ao c, v = .slice ao n c ∧ n ≤ c := by
  rcases h.2 with ⟨rfl, rfl⟩ | ⟨g, cap, cur, rfl, _, _, hc, _⟩
  · exact ⟨none, 0, rfl, Nat.le_refl _⟩
  · exact ⟨_, _, rfl, hc⟩
theorem own_last4 {w : World} {base g n c : Nat} {e : TypeId} {xs : List Value} {a0 a1 a2 a3 : Value} (h : w.ownsRow base e 4 (.slice (some ⟨g, 0, none⟩) (n + 1) c) (n + 1) (xs ++ [a0, a1, a2, a3])) (hx : xs.length = n * 4) :
    w.cell? ⟨g, n * 4, none⟩ = some a0 ∧ w.cell? ⟨g, n * 4 + 1, none⟩ = some a1 ∧ w.cell? ⟨g, n * 4 + 2, none⟩ = some a2 ∧ w.cell? ⟨g, n * 4 + 3, none⟩ = some a3 ∧
      w.frozen? ⟨g, n * 4, none⟩ = false ∧ w.frozen? ⟨g, n * 4 + 1, none⟩ = false ∧ w.frozen? ⟨g, n * 4 + 2, none⟩ = false ∧ w.frozen? ⟨g, n * 4 + 3, none⟩ = false ∧ g < w.heap.size := by
  have hs := (World.ownsRow.lt h g rfl).2
  refine ⟨?_, ?_, ?_, ?_, World.ownsRow.frozenAt h _, World.ownsRow.frozenAt h _, World.ownsRow.frozenAt h _, World.ownsRow.frozenAt h _, hs⟩
  · rw [World.ownsRow.cellAt h _ (by omega), List.getElem?_append_right (by omega), hx, show n * 4 - n * 4 = 0 by omega]; rfl
  · rw [World.ownsRow.cellAt h _ (by omega), List.getElem?_append_right (by omega), hx, show n * 4 + 1 - n * 4 = 1 by omega]; rfl
  · rw [World.ownsRow.cellAt h _ (by omega), List.getElem?_append_right (by omega), hx, show n * 4 + 2 - n * 4 = 2 by omega]; rfl
  · rw [World.ownsRow.cellAt h _ (by omega), List.getElem?_append_right (by omega), hx, show n * 4 + 3 - n * 4 = 3 by omega]; rfl
theorem sc_comm (w : World) (a c : Addr) (x y : Value) (h : a.block ≠ c.block) : (w.setCell a x).setCell c y = (w.setCell c y).setCell a x := by
  unfold World.setCell
  congr 1
  apply Array.ext
  · simp
  · intro i h1 h2
    simp only [Array.getElem_modify]
    by_cases e1 : c.block = i <;> by_cases e2 : a.block = i <;> simp_all
theorem sc_comm4 (w : World) (g k o o0 o1 o2 o3 : Nat) (x b0 b1 b2 b3 : Value) (h : g ≠ k) :
    ((((w.setCell ⟨k, o, none⟩ x).setCell ⟨g, o0, none⟩ b0).setCell ⟨g, o1, none⟩ b1).setCell ⟨g, o2, none⟩ b2).setCell ⟨g, o3, none⟩ b3 = ((((w.setCell ⟨g, o0, none⟩ b0).setCell ⟨g, o1, none⟩ b1).setCell ⟨g, o2, none⟩ b2).setCell ⟨g, o3, none⟩ b3).setCell ⟨k, o, none⟩ x := by
  rw [sc_comm _ ⟨k, o, none⟩ ⟨g, o0, none⟩ _ _ (Ne.symm h), sc_comm _ ⟨k, o, none⟩ ⟨g, o1, none⟩ _ _ (Ne.symm h), sc_comm _ ⟨k, o, none⟩ ⟨g, o2, none⟩ _ _ (Ne.symm h), sc_comm _ ⟨k, o, none⟩ ⟨g, o3, none⟩ _ _ (Ne.symm h)]
end Go.Proofs.YtkacjnifhmgeiaaGreatDoor

namespace Go.Proofs.YtkacjnifhmgeiaaGreatDoor
open Go.RowKit

theorem NdO.lastc {w : World} {base n c0 : Nat} {P : Nat → Prop} {ao : Option Addr} {l : List Nd} {ents : List Nent} (h : NdO w base P (.slice ao n c0) l ents) (o : List Nd) (c : Nd) (he : l = o ++ [c]) :
    ∃ g, ao = some ⟨g, 0, none⟩ ∧ g < w.heap.size ∧ w.cell? ⟨g, o.length * 4, none⟩ = some (.string ⟨c.n.toArray⟩) ∧ w.cell? ⟨g, o.length * 4 + 2, none⟩ = some (.string ⟨c.x.toArray⟩) ∧ w.frozen? ⟨g, o.length * 4 + 2, none⟩ = false := by
  have hl := h.len
  have h2 := h.row
  have heq := h.eq
  rcases h2.2 with ⟨e, h0⟩ | ⟨g, cap, cur, e, _, hg, _⟩
  · rw [he] at hl; simp at hl; omega
  · cases e
    have hlt : o.length < ents.length := by rw [hl, he]; simp
    obtain ⟨t1, t2, t3, t4⟩ := ndV_get ents o.length hlt
    have hc : ents[o.length].1 = c := by
      have : (ents.map (·.1))[o.length]? = some c := by rw [heq, he]; simp
      rw [List.getElem?_map, List.getElem?_eq_getElem hlt] at this
      simpa using this
    rw [hc] at t1 t3
    exact ⟨g, rfl, (Array.getElem?_eq_some_iff.1 hg).1, by rw [World.ownsRow.cellAt h2 _ (by omega)]; exact t1, by rw [World.ownsRow.cellAt h2 _ (by omega)]; exact t3, World.ownsRow.frozenAt h2 _⟩
end Go.Proofs.YtkacjnifhmgeiaaGreatDoor

namespace Go.Proofs.YtkacjnifhmgeiaaGreatDoor
open Go.RowKit

theorem list_snoc {α : Type} {l : List α} {n : Nat} (h : l.length = n + 1) : ∃ l0 x, l = l0 ++ [x] := by
  rcases List.eq_nil_or_concat l with rfl | ⟨l0, x, rfl⟩
  · simp at h
  · exact ⟨l0, x, by simp⟩
/-- How many are open. -/
def lenO (b : Nat) (w : World) : Nat := match w.cell? ⟨b, 1, none⟩ with | some (.slice _ n _) => n | _ => 0
theorem lsX_le (r : List Nd) (f : List (Nm × List Atr × List Nd)) : (lsX r f).length ≤ cntS (r, f) := by
  have hc : ∀ l : List Nd, l.length ≤ cntL l := by
    intro l
    induction l with
    | nil => simp [cntL]
    | cons d l ih => cases d with
      | mk n a x k => simp only [List.length_cons, cntL, cntN]; omega
  cases f with
  | nil => have := hc r; simp only [lsX, cntS, cntF]; omega
  | cons c f => obtain ⟨n, a, k⟩ := c; have := hc k; simp only [lsX, cntS, cntF]; omega
theorem BdR.setb {w : World} {b : Nat} {a c : Value} {t : TypeId} (h : w.heap[b]? = some (.cells #[a, c] t (0, 0))) : w.cell? ⟨b, 0, none⟩ = some a ∧ w.cell? ⟨b, 1, none⟩ = some c ∧ w.frozen? ⟨b, 0, none⟩ = false ∧ w.frozen? ⟨b, 1, none⟩ = false := by
  simp [World.cell?, World.frozen?, h]
theorem sc_comm2 (w : World) (b o1 o2 : Nat) (x y : Value) (h : o1 ≠ o2) : (w.setCell ⟨b, o1, none⟩ x).setCell ⟨b, o2, none⟩ y = (w.setCell ⟨b, o2, none⟩ y).setCell ⟨b, o1, none⟩ x := by
  unfold World.setCell
  congr 1
  apply Array.ext
  · simp
  · intro i h1 h2
    simp only [Array.getElem_modify]
    by_cases e : b = i
    · simp only [e, if_true]
      generalize w.heap[i]'(by simpa using h1) = q
      cases q <;> simp [Array.setIfInBounds_comm _ _ h]
    · simp [e]
end Go.Proofs.YtkacjnifhmgeiaaGreatDoor

namespace Go.Proofs.YtkacjnifhmgeiaaGreatDoor
open Go.RowKit

end Go.Proofs.YtkacjnifhmgeiaaGreatDoor

namespace Go.Proofs.YtkacjnifhmgeiaaGreatDoor
open Go.RowKit

end Go.Proofs.YtkacjnifhmgeiaaGreatDoor

namespace Go.Proofs.YtkacjnifhmgeiaaGreatDoor
open Go.RowKit

def atC (l : List Atr) : List Value := l.flatMap fun a => [.string ⟨a.1.toArray⟩, .string ⟨a.2.toArray⟩]
theorem atC_len (l : List Atr) : (atC l).length = l.length * 2 := by
  induction l with
  | nil => rfl
  | cons a l ih => simp only [atC, List.flatMap_cons, List.length_append, List.length_cons, List.length_nil] at *; omega
theorem atC_snoc (l : List Atr) (a : Atr) : atC (l ++ [a]) = atC l ++ [.string ⟨a.1.toArray⟩, .string ⟨a.2.toArray⟩] := by simp [atC]
theorem atC_get : ∀ (l : List Atr) (i : Nat) (h : i < l.length), (atC l)[i * 2]? = some (.string ⟨l[i].1.toArray⟩) ∧ (atC l)[i * 2 + 1]? = some (.string ⟨l[i].2.toArray⟩) := by
  intro l
  induction l with
  | nil => intro i h; simp at h
  | cons a l ih =>
    intro i h
    cases i with
    | zero => simp [atC]
    | succ i =>
      have := ih i (by simpa using h)
      have e : (i + 1) * 2 = i * 2 + 1 + 1 := by omega
      rw [e]
      simp only [atC, List.flatMap_cons, List.cons_append, List.nil_append, List.getElem?_cons_succ, List.getElem_cons_succ] at *
      exact this
/-- The call's own attributes. -/
def AtO (w : World) (base : Nat) (v : Value) (l : List Atr) : Prop := w.ownsRow base 39 2 v l.length (atC l)
theorem AtO.ats {w : World} {base : Nat} {v : Value} {l : List Atr} (h : AtO w base v l) : AtS w v l := by
  have h' := h
  rcases h.2 with ⟨rfl, h0⟩ | ⟨g, cap, cur, rfl, -, hg, -⟩
  · exact ⟨none, 0, by rw [h0], fun i hi => by omega⟩
  · refine ⟨_, cap, rfl, fun i hi => ⟨g, 0, rfl, (Array.getElem?_eq_some_iff.1 hg).1, ?_, ?_⟩⟩
    · have := World.ownsRow.cells h' (g := g) rfl _ _ (atC_get l i hi).1
      by_cases e : i = 0
      · subst e; simpa [Addr.add] using this
      · have e2 : i * 2 ≠ 0 := by omega
        simpa only [Addr.add, if_neg e2, Nat.zero_add] using this
    · have := World.ownsRow.cells h' (g := g) rfl _ _ (atC_get l i hi).2
      simpa [Addr.add] using this
theorem AtO.of_gb {w w' : World} {base : Nat} {v : Value} {l : List Atr} {b : Nat} (h : AtO w base v l) (hg : w.grownBy w' (some b)) (hb : b < base) : AtO w' base v l :=
  World.ownsRow.kept h hg (by
    cases hv : v.ownBlock with
    | none => exact Or.inl rfl
    | some k => right; have := (World.ownsRow.lt h k hv).1; simp; omega)
theorem Tryz.infoAtr : (Tryz.prog.info? 39).map (fun i => (i.zero, i.size, i.bytes)) = some (some (.agg #[.string ⟨#[]⟩, .string ⟨#[]⟩]), 2, 32) := by kernel_rfl
theorem gb_fresh {w w' : World} {b : Nat} {g : Option Nat} {w0 : World} (h0 : w0.grownBy w (some b)) (h : w.grownBy w' g) (hg : ∀ k, g = some k → w0.heap.size ≤ k) : w0.grownBy w' (some b) :=
  ⟨h.os.trans h0.os, h.tape.trans h0.tape, h.output.trans h0.output, Nat.le_trans h0.size h.size, fun k hk hne => (h.block k (Nat.lt_of_lt_of_le hk h0.size) (fun e => by have := hg k e.symm; omega)).trans (h0.block k hk hne)⟩

theorem is61_iff (d : UInt8) : is61 d = true ↔ d = 61 := by
  simp only [is61, decide_eq_true_eq]
  exact ⟨fun h => UInt8.toNat_inj.1 h, fun h => by rw [h]; rfl⟩
theorem oneAt_no61 (c : UInt8) (r : List UInt8) (h : hd is61 ((r.dropWhile nch).dropWhile wht) = false) : oneAt c r = some ((fold (c :: r.takeWhile nch), []), (r.dropWhile nch).dropWhile wht) := by
  unfold oneAt
  split
  · rename_i e; rw [e]
  · rename_i d s e
    rw [e] at h ⊢
    rw [if_neg (by rintro rfl; simp [hd, is61] at h)]
theorem oneAt_61 (c : UInt8) (r : List UInt8) (h : hd is61 ((r.dropWhile nch).dropWhile wht) = true) : ∃ s, (r.dropWhile nch).dropWhile wht = 61 :: s ∧ oneAt c r = (match valOf s with | none => none | some (v, u) => some ((fold (c :: r.takeWhile nch), (Tk v).1), u)) := by
  unfold oneAt
  split
  · rename_i e; rw [e] at h; exact absurd h (by decide)
  · rename_i d s e
    rw [e] at h ⊢
    obtain rfl := (is61_iff d).1 h
    exact ⟨s, rfl, by rw [if_pos rfl]; rcases valOf s with _ | ⟨_, _⟩ <;> rfl⟩

/-- A variable that holds an attribute. -/
def Ab (w : World) (q : Nat) (n y : List UInt8) : Prop := q < w.heap.size ∧ w.cell? ⟨q, 0, none⟩ = some (.string ⟨n.toArray⟩) ∧ w.cell? ⟨q, 1, none⟩ = some (.string ⟨y.toArray⟩) ∧ w.frozen? ⟨q, 0, none⟩ = false ∧ w.frozen? ⟨q, 1, none⟩ = false
theorem Ab.of_gb {w w' : World} {q b : Nat} {n y : List UInt8} (h : Ab w q n y) (hg : w.grownBy w' (some b)) (hne : q ≠ b) : Ab w' q n y := by
  have hb := hg.block q h.1 (by simpa using hne)
  exact ⟨Nat.lt_of_lt_of_le h.1 hg.size, (World.cell?_of_block hb).trans h.2.1, (World.cell?_of_block hb).trans h.2.2.1, (World.frozen?_of_block hb).trans h.2.2.2.1, (World.frozen?_of_block hb).trans h.2.2.2.2⟩
theorem Ab.of_bl {w w' : World} {q : Nat} {n y : List UInt8} (h : Ab w q n y) (hb : Bl w w') : Ab w' q n y :=
  ⟨Nat.lt_of_lt_of_le h.1 (Below.size hb), (hb.cells.1 q 0 h.1).trans h.2.1, (hb.cells.1 q 1 h.1).trans h.2.2.1, (hb.cells.2 q 0 h.1).trans h.2.2.2.1, (hb.cells.2 q 1 h.1).trans h.2.2.2.2⟩
theorem gb_setnew {w W : World} {g : Option Nat} (h : w.grownBy W g) {q : Nat} (hq : w.heap.size ≤ q) (o : Nat) (v : Value) : w.grownBy (W.setCell ⟨q, o, none⟩ v) g :=
  ⟨h.os, h.tape, h.output, by simpa using h.size, fun k hk hne => (Below.heap_setCell W ⟨q, o, none⟩ v k (by simp; omega)).trans (h.block k hk hne)⟩
theorem new_kept2 {W W' : World} {x y : Value} {t : TypeId} {C : Prop} (hb : Bl (W.alloc (.cells #[x, y] t)).drew W') (k : W.heap.size < W'.heap.size → W'.cell? ⟨W.heap.size, 0, none⟩ = some x → W'.cell? ⟨W.heap.size, 1, none⟩ = some y → W'.frozen? ⟨W.heap.size, 0, none⟩ = false → W'.frozen? ⟨W.heap.size, 1, none⟩ = false → C) : C := by
  have hlt : W.heap.size < (W.alloc (.cells #[x, y] t)).drew.heap.size := by simp
  refine k (Nat.lt_of_lt_of_le hlt (Below.size hb)) ?_ ?_ ?_ ?_
  · rw [hb.cells.1 _ 0 hlt]; simp
  · rw [hb.cells.1 _ 1 hlt]; simp
  · rw [hb.cells.2 _ 0 hlt]; simp
  · rw [hb.cells.2 _ 1 hlt]; simp

theorem b0_drew (w : World) : Bl w w.drew := (Bl.refl w).drew
theorem AtO.of_bl {w w' : World} {base : Nat} {v : Value} {l : List Atr} (h : AtO w base v l) (hb : Bl w w') : AtO w' base v l :=
  World.ownsRow.kept h (gb_bl (b := none) hb) (by cases hv : v.ownBlock <;> simp)
theorem addA_no {out : List Atr} {n y : List UInt8} (h : isNm n = false) : addA out (n, y) = out := by unfold addA; simp [h]
theorem addA_there {out : List Atr} {n y : List UInt8} (h : out.any (isN n) = true) : addA out (n, y) = out := by
  unfold addA
  have : (out.any fun x => x.1 == n) = true := h
  simp [this]
theorem addA_new {out : List Atr} {n y : List UInt8} (h : isNm n = true) (h2 : out.any (isN n) = false) : addA out (n, y) = out ++ [(n, y)] := by
  unfold addA
  have : (out.any fun x => x.1 == n) = false := h2
  rw [if_pos (by simp [h, this])]

theorem ES.of_gb {w W : World} {b : Nat} (h : ES w) (hg : w.grownBy W (some b)) (hb : 1 < b) : ES W := by
  obtain ⟨te, pe, h1, h2⟩ := h
  exact ⟨te, pe, Nat.lt_of_lt_of_le h1 hg.size, hg.cell h2 (by simp; omega)⟩
theorem Ab.set1 {w : World} {q : Nat} {n z : List UInt8} (h : Ab w q n z) (y : List UInt8) : Ab (w.setCell ⟨q, 1, none⟩ (.string ⟨y.toArray⟩)) q n y := by
  obtain ⟨h0, h1, h2, h3, h4⟩ := h
  refine ⟨by simpa using h0, ?_, ?_, by rw [World.frozen?_setCell]; exact h3, by rw [World.frozen?_setCell]; exact h4⟩
  · rw [World.cell?_setCell_other _ _ _ _ (by simp)]; exact h1
  · rw [World.cell?_setCell_same _ _ _ h2]

end Go.Proofs.YtkacjnifhmgeiaaGreatDoor

namespace Go.Proofs.YtkacjnifhmgeiaaGreatDoor
open Go.RowKit

theorem add_spot (g o j : Nat) : (⟨g, o, none⟩ : Addr).add j = ⟨g, o + j, none⟩ := by unfold Addr.add; split <;> simp_all
theorem atC_at : ∀ (l : List Atr) (j : Nat) (u : Value), (atC l)[j]? = some u → ∃ i, ∃ h : i < l.length, (j = i * 2 ∧ u = .string ⟨l[i].1.toArray⟩) ∨ (j = i * 2 + 1 ∧ u = .string ⟨l[i].2.toArray⟩) := by
  intro l
  induction l with
  | nil => intro j u h; simp [atC] at h
  | cons a l ih =>
    intro j u h
    have e : atC (a :: l) = .string ⟨a.1.toArray⟩ :: .string ⟨a.2.toArray⟩ :: atC l := rfl
    rw [e] at h
    match j, h with
    | 0, h => exact ⟨0, by simp, .inl ⟨rfl, by simpa using h.symm⟩⟩
    | 1, h => exact ⟨0, by simp, .inr ⟨rfl, by simpa using h.symm⟩⟩
    | j + 2, h =>
      obtain ⟨i, hi, h2⟩ := ih j u (by simpa using h)
      refine ⟨i + 1, by simp; omega, ?_⟩
      rcases h2 with ⟨e1, e2⟩ | ⟨e1, e2⟩
      · exact .inl ⟨by omega, by simpa using e2⟩
      · exact .inr ⟨by omega, by simpa using e2⟩
theorem atC_one (l : List Atr) : ∀ u ∈ atC l, u.oneCell' = true := by
  intro u hu
  obtain ⟨j, hj, rfl⟩ := List.mem_iff_getElem.1 hu
  obtain ⟨i, hi, h⟩ := atC_at l j _ (List.getElem?_eq_getElem hj)
  rcases h with ⟨_, e⟩ | ⟨_, e⟩ <;> rw [e] <;> rfl
theorem ats_news {w : World} {g o c : Nat} {l : List Atr} (h : AtS w (.slice (some ⟨g, o, none⟩) l.length c) l) : ∀ j u, (atC l)[j]? = some u → w.cell? ((⟨g, o, none⟩ : Addr).add j) = some u := by
  intro j u hj
  obtain ⟨ao, cap, e, h⟩ := h
  cases e
  rw [add_spot]
  obtain ⟨i, hi, h2⟩ := atC_at l j u hj
  obtain ⟨g', o', e, _, h3, h4⟩ := h i hi
  cases e
  rcases h2 with ⟨rfl, rfl⟩ | ⟨rfl, rfl⟩
  · exact h3
  · rw [← Nat.add_assoc]; exact h4
theorem AtO.atp {w : World} {base : Nat} {v : Value} {l : List Atr} (h : AtO w base v l) : AtP w (fun k => base ≤ k ∧ k < w.heap.size) v l := by
  have h2 := h.ats
  obtain ⟨ao, cap, rfl, hc⟩ := h2
  have hcap : l.length ≤ cap := by
    rcases h.2 with ⟨e, h0⟩ | ⟨g, cap', cur, e, _, _, hnc, _⟩
    · simp only [Value.slice.injEq] at e; omega
    · simp only [Value.slice.injEq] at e; omega
  refine ⟨ao, cap, rfl, hcap, fun i hi => ?_⟩
  obtain ⟨g, o, rfl, h3, h4, h5⟩ := hc i hi
  exact ⟨g, o, rfl, h3, ⟨((World.ownsRow.lt h) g rfl).1, h3⟩, h4, h5⟩
theorem iv_lsX {s : St} (h : Iv s) : ∃ r, ckL r false (lsX s.1 s.2) = 0 := by
  obtain ⟨r, f⟩ := s
  cases f with
  | nil => exact ⟨_, h.2.1⟩
  | cons c f => obtain ⟨n, a, k⟩ := c; exact ⟨_, h.1.2.2.2.2.2.1⟩
theorem ntx_lsX (s : St) : (ntxL (lsX s.1 s.2)).length ≤ (ntxS s).length := by
  obtain ⟨r, f⟩ := s
  cases f with
  | nil => simp [lsX, ntxS]
  | cons c f => obtain ⟨n, a, k⟩ := c; simp [lsX, ntxS, ntxF]; omega
end Go.Proofs.YtkacjnifhmgeiaaGreatDoor

namespace Go.Proofs.YtkacjnifhmgeiaaGreatDoor
open Go.RowKit

/-- append to an own slice, as one step of a region that draws. -/
theorem step_append_own {P : Program} {ops : Array Oper} {o : Oper} {a : Act} {w : World} {K : Act → World → Prop} {Q : Exit → Act → World → Prop} {E : Prop}
    (hgd : o.guard = none) (s x : Operand) (t : TypeId) (hop : o.op = Op.call { callee := Callee.builtin Builtin.append, args := #[s, x], argTypes := #[t, t] })
    (base : Nat) (e : TypeId) (i : TypeInfo) (z : Value) (size bytes : Nat) (ht : P.underlying t = some (.slice e)) (hi : P.info? e = some i) (hz : i.zero = some z)
    (hsize : i.size = size) (hby : i.bytes = bytes) (hzs : z.cells.size = size) (hsz : 0 < size)
    (v : Value) (n : Nat) (xs : List Value) (hs : a.eval s = v) (hown : w.ownsRow base e size v n xs)
    (ad : Addr) (m c : Nat) (news : List Value) (hx : a.eval x = .slice (some ad) m c) (hl : news.length = m * size) (hnews : ∀ j u, news[j]? = some u → w.cell? (ad.add j) = some u) (h1 : ∀ u ∈ news, u.oneCell' = true)
    (h63 : n + m ≤ maxLen) (hbytes : (n + m) * bytes ≤ 140737488355328) (hbase : base ≤ w.heap.size)
    (hK : ∀ v' w', w'.ownsRow base e size v' (n + m) (xs ++ news) → w.grownBy w' v.ownBlock → K (a.put o.dst v') w') :
    if Region.wanted o (yielded ops a.tmps) = true then Oper.wp P o a w K Q else E := by
  have hw : Region.wanted o (yielded ops a.tmps) = true := by simp [Region.wanted, hgd]
  rw [if_pos hw]
  obtain ⟨v', w', hrun, h2, h3, -⟩ := run_append_own (P := P) w base t o.type e i z size bytes ht hi hz hsize hby hzs hsz v n xs hown ad m c news hl hnews h1 h63 hbytes hbase
  unfold Oper.wp
  simp [execOp, hop, resolve, invoke, builtin, hs, hx, hrun, Result.andThen]
  exact hK v' w' h2 h3

def tkC (l : List (Tok × Value)) : List Value := l.flatMap fun p => [.int .i64 p.1.1, .string ⟨p.1.2.1.toArray⟩, p.2, .string ⟨p.1.2.2.2.toArray⟩]
theorem tkC_snoc (l : List (Tok × Value)) (p : Tok × Value) : tkC (l ++ [p]) = tkC l ++ [.int .i64 p.1.1, .string ⟨p.1.2.1.toArray⟩, p.2, .string ⟨p.1.2.2.2.toArray⟩] := by simp [tkC]
theorem tkC_get : ∀ (l : List (Tok × Value)) (i : Nat) (h : i < l.length), (tkC l)[i * 4]? = some (.int .i64 l[i].1.1) ∧ (tkC l)[i * 4 + 1]? = some (.string ⟨l[i].1.2.1.toArray⟩) ∧ (tkC l)[i * 4 + 2]? = some l[i].2 ∧ (tkC l)[i * 4 + 3]? = some (.string ⟨l[i].1.2.2.2.toArray⟩) := by
  intro l
  induction l with
  | nil => intro i h; simp at h
  | cons a l ih =>
    intro i h
    cases i with
    | zero => simp [tkC]
    | succ i =>
      have := ih i (by simpa using h)
      have e : (i + 1) * 4 = i * 4 + 1 + 1 + 1 + 1 := by omega
      rw [e]
      simp only [tkC, List.flatMap_cons, List.cons_append, List.nil_append, List.getElem?_cons_succ, List.getElem_cons_succ] at *
      exact this
theorem gb_own {w : World} {base : Nat} {e : TypeId} {size n : Nat} {v : Value} {xs : List Value} {b : Nat} (h : w.ownsRow base e size v n xs) (hb : b < base) : v.ownBlock = none ∨ v.ownBlock ≠ some b := by
  cases hv : v.ownBlock with
  | none => exact Or.inl rfl
  | some k => right; have := (World.ownsRow.lt h k hv).1; simp; omega
/-- Rows of two types are two rows. -/
theorem two_rows {w : World} {b1 b2 : Nat} {e1 e2 : TypeId} {s1 s2 n1 n2 : Nat} {v1 v2 : Value} {x1 x2 : List Value} (h1 : w.ownsRow b1 e1 s1 v1 n1 x1) (h2 : w.ownsRow b2 e2 s2 v2 n2 x2) (he : e1 ≠ e2) : v1.ownBlock = none ∨ v1.ownBlock ≠ v2.ownBlock := by
  rcases h1.2 with ⟨rfl, _⟩ | ⟨g1, c1, u1, rfl, _, hg1, _⟩
  · exact Or.inl rfl
  · rcases h2.2 with ⟨rfl, _⟩ | ⟨g2, c2, u2, rfl, _, hg2, _⟩
    · right; simp [Value.ownBlock]
    · right
      simp only [Value.ownBlock, ne_eq, Option.some.injEq]
      rintro rfl
      rw [hg1] at hg2
      exact he (by simpa using (Option.some.inj hg2 |> Obj.cells.inj).2.1)
theorem AtO.nil (w : World) (base : Nat) : AtO w base (.slice none 0 0) [] := World.ownsRow_nil _ _ _ _
theorem ES.of_below {w W : World} {b : Nat} (h : ES w) (hb : Below b w W) (hE : 1 < b) : ES W := by
  obtain ⟨te, pe, h1, h2⟩ := h
  exact ⟨te, pe, Nat.lt_of_lt_of_le h1 (Below.size hb), (Below.cell hb (p := ⟨1, 0, none⟩) hE).trans h2⟩
theorem ML.of_below {w W : World} {b : Nat} (h : ML w) (hb : Below b w W) (hE : 0 < b) : ML W := by
  obtain ⟨m, h1, h2⟩ := h
  exact ⟨m, Nat.lt_of_lt_of_le h1 (Below.size hb), (Below.cell hb (p := ⟨0, 0, none⟩) hE).trans h2⟩
theorem below_gb {w W : World} {b k : Nat} (h : w.grownBy W (some b)) (hk : k ≤ b) (hs : k ≤ w.heap.size) : Below k w W :=
  ⟨h.os, h.tape, h.output, h.size, fun i hi => h.block i (by omega) (by simp; omega)⟩
theorem below_gr {w W : World} {g : Option Nat} {k : Nat} (h : w.grownBy W g) (hk : ∀ j, g = some j → k ≤ j) (hs : k ≤ w.heap.size) : Below k w W :=
  ⟨h.os, h.tape, h.output, h.size, fun i hi => h.block i (by omega) (fun e => by have := hk i e.symm; omega)⟩

theorem own_shape {w : World} {base : Nat} {e : TypeId} {size n : Nat} {v : Value} {xs : List Value} (h : w.ownsRow base e size v (n + 1) xs) : ∃ g c, v = .slice (some ⟨g, 0, none⟩) (n + 1) c := by
  rcases h.2 with ⟨_, h0⟩ | ⟨g, cap, cur, rfl, _⟩
  · omega
  · exact ⟨g, cap, rfl⟩
/-- Block b and row g alone have turned; there may be more. -/
structure Fr2 (b : Nat) (g : Option Nat) (w w' : World) : Prop where
  os : w'.os = w.os
  tape : w'.tape = w.tape
  output : w'.output = w.output
  size : w.heap.size ≤ w'.heap.size
  block : ∀ k, k < w.heap.size → k ≠ b → some k ≠ g → w'.heap[k]? = w.heap[k]?
theorem Fr2.of_gb {b : Nat} {g : Option Nat} {w w' : World} (h : w.grownBy w' (some b)) : Fr2 b g w w' := ⟨h.os, h.tape, h.output, h.size, fun k hk h1 _ => h.block k hk (by simpa using h1)⟩
theorem Fr2.of_gr {b : Nat} {g : Option Nat} {w w' : World} (h : w.grownBy w' g) : Fr2 b g w w' := ⟨h.os, h.tape, h.output, h.size, fun k hk _ h2 => h.block k hk h2⟩
theorem Fr2.trans {b : Nat} {g : Option Nat} {x y z : World} (h : Fr2 b g x y) (k : Fr2 b g y z) : Fr2 b g x z :=
  ⟨k.os.trans h.os, k.tape.trans h.tape, k.output.trans h.output, Nat.le_trans h.size k.size, fun i hi h1 h2 => (k.block i (Nat.lt_of_lt_of_le hi h.size) h1 h2).trans (h.block i hi h1 h2)⟩
theorem Fr2.below {b : Nat} {g : Option Nat} {w w' : World} (h : Fr2 b g w w') (hg : ∀ j, g = some j → b < j) (hs : b ≤ w.heap.size) : Below b w w' :=
  ⟨h.os, h.tape, h.output, h.size, fun k hk => h.block k (by omega) (by omega) (fun e => by have := hg k e.symm; omega)⟩
theorem own_fr2 {w w' : World} {base : Nat} {e : TypeId} {size n : Nat} {v : Value} {xs : List Value} {b : Nat} {g : Option Nat} (h : w.ownsRow base e size v n xs) (hF : Fr2 b g w w') (hb : b < base) (hg : v.ownBlock = none ∨ v.ownBlock ≠ g) : w'.ownsRow base e size v n xs := by
  refine ⟨h.1, ?_⟩
  rcases h.2 with hn | ⟨k, cap, cur, rfl, hk, hkk, rest⟩
  · exact .inl hn
  · refine .inr ⟨k, cap, cur, rfl, hk, ?_, rest⟩
    rw [hF.block k (Array.getElem?_eq_some_iff.1 hkk).1 (by omega) (by simpa [Value.ownBlock] using hg)]
    exact hkk
end Go.Proofs.YtkacjnifhmgeiaaGreatDoor

namespace Go.Proofs.YtkacjnifhmgeiaaGreatDoor
open Go.RowKit

theorem AtO.shape {w : World} {B : Nat} {v : Value} {l : List Atr} (h : AtO w B v l) : ∃ ao c, v = .slice ao l.length c := by
  rcases h.2 with ⟨rfl, h0⟩ | ⟨g, cap, cur, rfl, _⟩
  · exact ⟨none, 0, by rw [h0]⟩
  · exact ⟨_, cap, rfl⟩
theorem AtO.base_le {w : World} {B B' : Nat} {v : Value} {l : List Atr} (h : AtO w B v l) (hB : B' ≤ B) : AtO w B' v l := by
  refine ⟨h.1, ?_⟩
  rcases h.2 with hn | ⟨k, cap, cur, rfl, hk, rest⟩
  · exact .inl hn
  · exact .inr ⟨k, cap, cur, rfl, Nat.le_trans hB hk, rest⟩
theorem own_bl {w w' : World} {base : Nat} {e : TypeId} {size n : Nat} {v : Value} {xs : List Value} (h : w.ownsRow base e size v n xs) (hb : Bl w w') : w'.ownsRow base e size v n xs :=
  World.ownsRow.kept h (gb_bl (b := none) hb) (by cases hv : v.ownBlock <;> simp)
end Go.Proofs.YtkacjnifhmgeiaaGreatDoor

namespace Go.Proofs.YtkacjnifhmgeiaaGreatDoor
open Go.RowKit

/-- A row that is owned, appended to a row that is owned. -/
theorem run_append_row {P : Program} (w : World) (base base2 : Nat) (t ty e : TypeId) (i : TypeInfo) (z : Value) (size bytes : Nat) (ht : P.underlying t = some (.slice e)) (hi : P.info? e = some i) (hz : i.zero = some z)
    (hsize : i.size = size) (hby : i.bytes = bytes) (hzs : z.cells.size = size) (hsz : 0 < size)
    (v : Value) (n : Nat) (xs : List Value) (hown : w.ownsRow base e size v n xs) (u : Value) (m : Nat) (ys : List Value) (hu : w.ownsRow base2 e size u m ys) (h1 : ∀ x ∈ ys, x.oneCell' = true)
    (h63 : n + m ≤ maxLen) (hbytes : (n + m) * bytes ≤ 140737488355328) (hbase : base ≤ w.heap.size) :
    ∃ v' w', (Builtin.append_ #[t, t] ty #[v, u]).run P w = .ok v' w' ∧ w'.ownsRow base e size v' (n + m) (xs ++ ys) ∧ w.grownBy w' v.ownBlock := by
  have hu' := hu
  rcases hu.2 with ⟨rfl, rfl⟩ | ⟨g, cap, cur, rfl, _, hg, hnc, hcm, hcs, htake⟩
  · have hy : ys = [] := List.eq_nil_of_length_eq_zero (by simpa using hu.1)
    subst hy
    exact ⟨v, w, run_append_owned_none w base t ty e i size ht hi v n xs hown, by simpa using hown, gb_bl (b := v.ownBlock) (Bl.refl w)⟩
  · obtain ⟨v', w', hr, h2, h3, _⟩ := run_append_own (P := P) w base t ty e i z size bytes ht hi hz hsize hby hzs hsz v n xs hown ⟨g, 0, none⟩ m cap ys hu.1 (fun j x hj => World.ownsRow.cells hu' (g := g) rfl _ _ hj) h1 h63 hbytes hbase
    exact ⟨v', w', hr, h2, h3⟩
theorem step_append_row {P : Program} {ops : Array Oper} {o : Oper} {a : Act} {w : World} {K : Act → World → Prop} {Q : Exit → Act → World → Prop} {E : Prop}
    (hgd : o.guard = none) (s x : Operand) (t : TypeId) (hop : o.op = Op.call { callee := Callee.builtin Builtin.append, args := #[s, x], argTypes := #[t, t] })
    (base base2 : Nat) (e : TypeId) (i : TypeInfo) (z : Value) (size bytes : Nat) (ht : P.underlying t = some (.slice e)) (hi : P.info? e = some i) (hz : i.zero = some z)
    (hsize : i.size = size) (hby : i.bytes = bytes) (hzs : z.cells.size = size) (hsz : 0 < size)
    (v : Value) (n : Nat) (xs : List Value) (hs : a.eval s = v) (hown : w.ownsRow base e size v n xs) (u : Value) (m : Nat) (ys : List Value) (hx : a.eval x = u) (hu : w.ownsRow base2 e size u m ys) (h1 : ∀ x ∈ ys, x.oneCell' = true)
    (h63 : n + m ≤ maxLen) (hbytes : (n + m) * bytes ≤ 140737488355328) (hbase : base ≤ w.heap.size)
    (hK : ∀ v' w', w'.ownsRow base e size v' (n + m) (xs ++ ys) → w.grownBy w' v.ownBlock → K (a.put o.dst v') w') :
    if Region.wanted o (yielded ops a.tmps) = true then Oper.wp P o a w K Q else E := by
  have hw : Region.wanted o (yielded ops a.tmps) = true := by simp [Region.wanted, hgd]
  rw [if_pos hw]
  obtain ⟨v', w', hrun, h2, h3⟩ := run_append_row (P := P) w base base2 t o.type e i z size bytes ht hi hz hsize hby hzs hsz v n xs hown u m ys hu h1 h63 hbytes hbase
  unfold Oper.wp
  simp [execOp, hop, resolve, invoke, builtin, hs, hx, hrun, Result.andThen]
  exact hK v' w' h2 h3
theorem wpList_append_row {P : Program} (w : World) {ops : Array Oper} {rest : List Oper} {o : Oper} {a : Act} {Q : Exit → Act → World → Prop} (hgd : o.guard = none) (s x : Operand) (t : TypeId)
    (ho : o.op = .call { callee := .builtin .append, args := #[s, x], argTypes := #[t, t] })
    (base base2 : Nat) (e : TypeId) (i : TypeInfo) (z : Value) (size bytes : Nat) (ht : P.underlying t = some (.slice e)) (hi : P.info? e = some i) (hz : i.zero = some z)
    (hsize : i.size = size) (hby : i.bytes = bytes) (hzs : z.cells.size = size) (hsz : 0 < size)
    (v : Value) (n : Nat) (xs : List Value) (hs : a.eval s = v) (hown : w.ownsRow base e size v n xs) (u : Value) (m : Nat) (ys : List Value) (hx : a.eval x = u) (hu : w.ownsRow base2 e size u m ys) (h1 : ∀ x ∈ ys, x.oneCell' = true)
    (h63 : n + m ≤ maxLen) (hbytes : (n + m) * bytes ≤ 140737488355328) (hbase : base ≤ w.heap.size)
    (h : ∀ v' w', w'.ownsRow base e size v' (n + m) (xs ++ ys) → w.grownBy w' v.ownBlock → wpList P ops Q rest (a.put o.dst v') w') : wpList P ops Q (o :: rest) a w := by
  refine wpList_plain hgd fun K hK => ?_
  obtain ⟨v', w', hr, h2, h3⟩ := run_append_row (P := P) w base base2 t o.type e i z size bytes ht hi hz hsize hby hzs hsz v n xs hown u m ys hu h1 h63 hbytes hbase
  unfold Oper.wp execOp
  simp only [ho, resolve, invoke, builtin, Sem.run_bind, Sem.run_pure, Result.andThen_ok, List.map_toArray, List.map_cons, List.map_nil, hs, hx, hr]
  exact hK _ _ (h v' w' h2 h3)
theorem tkC_one (l : List (Tok × Value)) (h : ∀ p ∈ l, p.2.oneCell' = true) : ∀ u ∈ tkC l, u.oneCell' = true := by
  intro u hu
  simp only [tkC, List.mem_flatMap] at hu
  obtain ⟨p, hp, hu⟩ := hu
  simp only [List.mem_cons, List.not_mem_nil, or_false] at hu
  rcases hu with rfl | rfl | rfl | rfl
  · rfl
  · rfl
  · exact h p hp
  · rfl
theorem tkC_app (l m : List (Tok × Value)) : tkC (l ++ m) = tkC l ++ tkC m := by simp [tkC]
theorem AtO.one {w : World} {base : Nat} {v : Value} {l : List Atr} (h : AtO w base v l) : v.oneCell' = true := by
  obtain ⟨ao, c, rfl⟩ := h.shape; rfl
end Go.Proofs.YtkacjnifhmgeiaaGreatDoor

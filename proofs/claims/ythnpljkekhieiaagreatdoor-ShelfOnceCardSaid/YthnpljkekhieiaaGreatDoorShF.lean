/- Clean markup: the closures of safe; safe; Stays. -/
import Derived.Test.YthnpljkekhieiaaGreatDoorGrpN
import Derived.Test.YthnpljkekhieiaaGreatDoorGrpO
import Derived.Test.YthnpljkekhieiaaGreatDoorTokBy
namespace Go.Proofs.YthnpljkekhieiaaGreatDoor
open Go.RowKit

/-- A block of two cells. -/
def B2 (W : World) (b : Nat) (x y : Value) : Prop := b < W.heap.size ∧ W.cell? ⟨b, 0, none⟩ = some x ∧ W.cell? ⟨b, 1, none⟩ = some y
theorem B2.of_bl {W W' : World} {b : Nat} {x y : Value} (h : B2 W b x y) (hb : Bl W W') : B2 W' b x y :=
  ⟨Nat.lt_of_lt_of_le h.1 (Below.size hb), (hb.cells.1 b 0 h.1).trans h.2.1, (hb.cells.1 b 1 h.1).trans h.2.2⟩
theorem B2.new (w : World) (x y : Value) (t : TypeId) : B2 (w.alloc (.cells #[x, y] t)) w.heap.size x y := ⟨by simp, by simp, by simp⟩
/-- A block that holds a node. -/
def B4 (W : World) (b : Nat) (x y z u : Value) : Prop := b < W.heap.size ∧ W.cell? ⟨b, 0, none⟩ = some x ∧ W.cell? ⟨b, 1, none⟩ = some y ∧ W.cell? ⟨b, 2, none⟩ = some z ∧ W.cell? ⟨b, 3, none⟩ = some u
theorem B4.of_bl {W W' : World} {b : Nat} {x y z u : Value} (h : B4 W b x y z u) (hb : Bl W W') : B4 W' b x y z u :=
  ⟨Nat.lt_of_lt_of_le h.1 (Below.size hb), (hb.cells.1 b 0 h.1).trans h.2.1, (hb.cells.1 b 1 h.1).trans h.2.2.1, (hb.cells.1 b 2 h.1).trans h.2.2.2.1, (hb.cells.1 b 3 h.1).trans h.2.2.2.2⟩
theorem B4.new (w : World) (x y z u : Value) (t : TypeId) : B4 (w.alloc (.cells #[x, y, z, u] t)) w.heap.size x y z u := ⟨by simp, by simp, by simp, by simp, by simp⟩
/-- A block whose first cell is told. -/
def B1 (W : World) (b : Nat) (x : Value) : Prop := b < W.heap.size ∧ W.cell? ⟨b, 0, none⟩ = some x
theorem B1.of_bl {W W' : World} {b : Nat} {x : Value} (h : B1 W b x) (hb : Bl W W') : B1 W' b x := ⟨Nat.lt_of_lt_of_le h.1 (Below.size hb), (hb.cells.1 b 0 h.1).trans h.2⟩
set_option maxHeartbeats 1000000 in
theorem badA_c (n : Nm) (a : Atr) (q : Nat) (ha : a.2.length ≤ 1000000) (w : World) (hq : B1 w q (.string ⟨n.toArray⟩)) :
    Calls Tryz.prog 95 #[atV a, .pointer (some ⟨q, 0, none⟩)] w fun e w' => e = .returned (.bool (badA n a)) ∧ Bl w w' := by
  obtain ⟨x, y⟩ := a
  have AC := Lib.hid (fun W => attr_c n (x, y) W)
  have LC := Lib.hid (fun W => link_c x W)
  have IC := Lib.hid (fun W => is_c y ha W)
  have hQ0 := hq.of_bl ((Bl.refl _).alloc (.cells #[.string ⟨x.toArray⟩, .string ⟨y.toArray⟩] 102))
  have hB0 := B2.new w (.string ⟨x.toArray⟩) (.string ⟨y.toArray⟩) 102
  unfold atV at AC ⊢
  have HB := Lib.hid (show badA n (x, y) = (!mayA n x || lnkN x && (!isU y || decide (3000 < y.length))) from rfl)
  simp only at AC ha ⊢
  obtain ⟨hql, hqc⟩ := hq
  cases hm : mayA n x with
  | false =>
    rw [hm] at AC HB
    clear hm
    go_enter Tryz.func95, Tryz.ntmps95
    go_wp2_with (go_at_call 96; (with_reducible refine (AC.out _).mono ?_); rintro e w1 ⟨rfl, hb1⟩)
    go_ret
    exact ⟨ret_bool (by rw [HB.out]; rfl), ((Bl.refl _).alloc _).trans hb1⟩
  | true =>
    rw [hm] at AC HB
    clear hm
    cases hl : lnkN x with
    | false =>
      rw [hl] at LC HB
      clear hl
      go_enter Tryz.func95, Tryz.ntmps95
      go_wp2_with (first | (go_at_call 96; (with_reducible refine (AC.out _).mono ?_); rintro e w1 ⟨rfl, hb1⟩; obtain ⟨l1, x1, y1⟩ := hB0.of_bl hb1) | (go_at_call 97; (with_reducible refine (LC.out _).mono ?_); rintro e w2 ⟨rfl, rfl⟩))
      go_ret
      exact ⟨ret_bool (by rw [HB.out]; rfl), ((Bl.refl _).alloc _).trans hb1⟩
    | true =>
      rw [hl] at LC HB
      clear hl
      cases hu : isU y with
      | false =>
        rw [hu] at IC HB
        clear hu
        go_enter Tryz.func95, Tryz.ntmps95
        go_wp2_with (first | (go_at_call 96; (with_reducible refine (AC.out _).mono ?_); rintro e w1 ⟨rfl, hb1⟩; obtain ⟨l1, x1, y1⟩ := hB0.of_bl hb1) | (go_at_call 97; (with_reducible refine (LC.out _).mono ?_); rintro e w2 ⟨rfl, rfl⟩) | (go_at_call 52; (with_reducible refine (IC.out _).mono ?_); rintro e w3 ⟨rfl, hb3⟩))
        go_ret
        exact ⟨ret_bool (by rw [HB.out]; rfl), (((Bl.refl _).alloc _).trans hb1).trans hb3⟩
      | true =>
        rw [hu] at IC HB
        clear hu
        have hd := Lib.hid (show decide (3000 < y.length) = decide ((3000 : Int) < (y.length : Int)) by rw [decide_eq_decide]; omega)
        go_enter Tryz.func95, Tryz.ntmps95
        go_wp2_with (first | (go_at_call 96; (with_reducible refine (AC.out _).mono ?_); rintro e w1 ⟨rfl, hb1⟩; obtain ⟨l1, x1, y1⟩ := hB0.of_bl hb1) | (go_at_call 97; (with_reducible refine (LC.out _).mono ?_); rintro e w2 ⟨rfl, rfl⟩) | (go_at_call 52; (with_reducible refine (IC.out _).mono ?_); rintro e w3 ⟨rfl, hb3⟩; obtain ⟨l3, x3, y3⟩ := (hB0.of_bl hb1).of_bl hb3))
        go_ret
        exact ⟨ret_bool (by rw [HB.out, hd.out]; simp), (((Bl.refl _).alloc _).trans hb1).trans hb3⟩
theorem cf_bad : ∀ (args : Array Value) (W : World), Sem.run Tryz.prog (callFunc 95 args) W = .ok (.enter 95 args) W := by
  intro args W
  simp [callFunc, go_sem, Tryz.func95, Tryz.f95]
theorem cf_has : ∀ (args : Array Value) (W : World), Sem.run Tryz.prog (callFunc 132 args) W = .ok (.enter 132 args) W := by
  intro args W
  simp [callFunc, go_sem, Tryz.func132, Tryz.f132]
theorem cf_safe : ∀ (args : Array Value) (W : World), Sem.run Tryz.prog (callFunc 93 args) W = .ok (.enter 93 args) W := by
  intro args W
  simp [callFunc, go_sem, Tryz.func93, Tryz.f93]
def aD : Atr := ([], [])
theorem ats_hA {w : World} {ao : Option Addr} {cap : Nat} {l : List Atr} (hA : ∀ i (h : i < l.length), ∃ g o, ao = some ⟨g, o, none⟩ ∧ g < w.heap.size ∧ w.cell? ⟨g, o + i * 2, none⟩ = some (.string ⟨l[i].1.toArray⟩) ∧ w.cell? ⟨g, o + i * 2 + 1, none⟩ = some (.string ⟨l[i].2.toArray⟩)) (_hc : cap = cap) :
    ∀ i, i < l.length → ∃ g o, ao = some ⟨g, o, none⟩ ∧ g < w.heap.size ∧ w.cell? ⟨g, o + i * 2, none⟩ = some ((fun i => Value.string ⟨(l.getD i aD).1.toArray⟩) i) ∧ w.cell? ⟨g, o + i * 2 + 1, none⟩ = some ((fun i => Value.string ⟨(l.getD i aD).2.toArray⟩) i) := by
  intro i hi
  obtain ⟨g, o, h1, h2, h3, h4⟩ := hA i hi
  refine ⟨g, o, h1, h2, ?_, ?_⟩
  · show _ = some (Value.string ⟨(l.getD i aD).1.toArray⟩); rw [getD_get _ _ _ hi]; exact h3
  · show _ = some (Value.string ⟨(l.getD i aD).2.toArray⟩); rw [getD_get _ _ _ hi]; exact h4
/-- Is one of these attributes bad? -/
theorem anyBad_c (n : Nm) (q : Nat) (l : List Atr) (v : Value) (hl : l.length ≤ 1099511627776) (ha : ∀ a ∈ l, a.2.length ≤ 1000000) (w : World) (hA : AtS w v l) (hq : B1 w q (.string ⟨n.toArray⟩)) :
    Calls Tryz.prog 94 #[v, .func (.func 95) #[] #[.pointer (some ⟨q, 0, none⟩)]] w fun e w' => e = .returned (.bool (l.any (badA n))) ∧ Bl w w' := by
  obtain ⟨ao, cap, rfl, hA⟩ := hA
  rw [← any_range (badA n) l aD]
  refine containsF_A _ _ cf_bad l.length cap ao _ _ (fun i => badA n (l.getD i aD)) hl w (ats_hA (cap := cap) hA rfl) (fun i hi W hb => ?_)
  exact badA_c n (l.getD i aD) q (by rw [getD_get _ _ _ hi]; exact ha _ (List.getElem_mem hi)) W (hq.of_bl hb)
theorem hasOne_c (s : Nm) (a : Atr) (q : Nat) (w : World) (hq : B1 w q (.string ⟨s.toArray⟩)) :
    Calls Tryz.prog 132 #[atV a, .pointer (some ⟨q, 0, none⟩)] w fun e w' => e = .returned (.bool (decide (a.1 = s))) ∧ Bl w w' := by
  obtain ⟨x, y⟩ := a
  obtain ⟨hql, hqc⟩ := hq
  unfold atV
  go_enter Tryz.func132, Tryz.ntmps132
  go_wp2
  go_ret
  exact ⟨ret_bool (by rw [Bool.eq_iff_iff, beq_iff_eq]; exact decide_eq_true_iff.symm), (Bl.refl _).alloc _⟩
theorem has_c (l : List Atr) (v : Value) (s : Nm) (hl : l.length ≤ 1099511627776) (w : World) (hA : AtS w v l) :
    Calls Tryz.prog 99 #[v, .string ⟨s.toArray⟩] w fun e w' => e = .returned (.bool (l.any fun a => decide (a.1 = s))) ∧ Bl w w' := by
  have hA1 := hA.of_bl ((Bl.refl _).alloc (.cells #[.string ⟨s.toArray⟩] 9))
  obtain ⟨ao, cap, rfl, hA1⟩ := hA1
  have CC := Lib.hid (containsF_A _ #[.pointer (some ⟨w.heap.size, 0, none⟩)] cf_has l.length cap ao _ _ (fun i => decide ((l.getD i aD).1 = s)) hl _ (ats_hA (cap := cap) hA1 rfl) (fun i _ W hb => hasOne_c s (l.getD i aD) w.heap.size W (B1.of_bl ⟨by simp, by simp⟩ hb)))
  rw [any_range (fun a : Atr => decide (a.1 = s)) l aD] at CC
  clear hA hA1
  go_enter Tryz.func99, Tryz.ntmps99
  go_wp2_with (go_at_call 94; (with_reducible refine CC.out.mono ?_); rintro e w1 ⟨rfl, hb1⟩)
  go_ret
  exact ⟨rfl, ((Bl.refl _).alloc _).trans hb1⟩
end Go.Proofs.YthnpljkekhieiaaGreatDoor

/- Documents: All and Read. · Documents: Read. -/
import Derived.Test.YtkacjnifhmgeiaaGreatDoorXmlJ
import Derived.Recover
import Derived.Laws.ResultCell
namespace Go.Proofs.YtkacjnifhmgeiaaGreatDoor
open Go.RowKit

/-- The variable of a named result that holds an errno. -/
def Eb (w : World) (q : Nat) (m : Int) : Prop := w.heap[q]? = some (.cells #[.int .i64 m] 26 (0, 0))
theorem Eb.cells {w : World} {q : Nat} {m : Int} (h : Eb w q m) : w.cell? ⟨q, 0, none⟩ = some (.int .i64 m) ∧ w.frozen? ⟨q, 0, none⟩ = false := by
  unfold Eb at h
  simp [World.cell?, World.frozen?, h]
theorem Eb.of_gb {w w' : World} {q : Nat} {m : Int} {g : Option Nat} (h : Eb w q m) (hg : w.grownBy w' g) (hne : some q ≠ g) : Eb w' q m :=
  (hg.block q (Array.getElem?_eq_some_iff.1 h).1 hne).trans h
theorem Eb.set {w : World} {q : Nat} {m : Int} (h : Eb w q m) (k : Int) : Eb (w.setCell ⟨q, 0, none⟩ (.int .i64 k)) q k := by
  unfold Eb at *
  simp [World.setCell, h, Array.getElem?_modify]
theorem fin4_eb {W : World} {k q : Nat} {m : Int} {v0 v1 v2 v3 : Value} (h : Eb W q m) (hkq : k ≠ q) : Eb (fin4 W k v0 v1 v2 v3) q m := by
  have hs : Still (fun j => j = q) W (fin4 W k v0 v1 v2 v3) := fin4_still (by omega)
  unfold Eb at *
  rw [hs.block q (Array.getElem?_eq_some_iff.1 h).1 rfl, h]
theorem fin4_gb0 {w W : World} {q : Nat} {v0 v1 v2 v3 : Value} {g : Option Nat} (h : w.grownBy W g) (hq : w.heap.size ≤ q) : w.grownBy (fin4 W q v0 v1 v2 v3) g := fin4_gb h hq
/-- What stands behind the recovery. -/
def caughtW (w : World) (k q : Nat) (n : Int) : World := (fin4 w k (.string ⟨([] : List UInt8).toArray⟩) (.slice none 0 0) (.string ⟨([] : List UInt8).toArray⟩) (.slice none 0 0)).setCell ⟨q, 0, none⟩ (.int .i64 n)
theorem caught_cells {w : World} {k q : Nat} {m : Int} {nn x : List UInt8} {va vk : Value} (hN : Nb w k nn va x vk) (hkq : k ≠ q) (hQ : Eb w q m) (n : Int) :
    (caughtW w k q n).cell? ⟨k, 0, none⟩ = some (.string ⟨#[]⟩) ∧ (caughtW w k q n).cell? ⟨k, 1, none⟩ = some (.slice none 0 0) ∧ (caughtW w k q n).cell? ⟨k, 2, none⟩ = some (.string ⟨#[]⟩) ∧ (caughtW w k q n).cell? ⟨k, 3, none⟩ = some (.slice none 0 0) ∧ (caughtW w k q n).cell? ⟨q, 0, none⟩ = some (.int .i64 n) := by
  obtain ⟨h0, h1, h2, h3, -⟩ := ((fin4_nb (n := []) (va := .slice none 0 0) (x := []) (vk := .slice none 0 0) hN).far (r := q) (o := 0) (u := .int .i64 n) hkq).cells
  exact ⟨h0, h1, h2, h3, ((fin4_eb hQ hkq).set n).cells.1⟩
theorem caught_bl {w w1 : World} {b : Nat} {n : Int} (hg : w.grownBy w1 (some b)) (hb : w.heap.size ≤ b) : Bl w (caughtW w1 w.heap.size (w.heap.size + 1) n) := by
  have h1 : Below w.heap.size w w1 := below_gr hg (fun j e => by cases e; exact hb) (Nat.le_refl _)
  unfold caughtW fin4
  exact Below.setCell (Below.setCell (Below.setCell (Below.setCell (Below.setCell h1 (Nat.le_refl _) _) (Nat.le_refl _) _) (Nat.le_refl _) _) (Nat.le_refl _) _) (Nat.le_succ _) _

theorem all1_idle (p q : Addr) (w : World) :
    CallsD Tryz.prog 34 #[.pointer (some p), .pointer (some q)] .returning w fun e u' w' => e = .returned (.tuple #[]) ∧ u' = .returning ∧ w' = w := by
  refine callsD_of_wpS Tryz.func34 rfl fun c₀ cs hu => ?_
  apply wpS_seq
  apply wpS_region
  simp [wpOpsS, go_sem, recoverD, hu, Tryz.ntmps34, Exit.thenS]
  apply wpS_seq
  apply wpS_region
  simp [wpOpsS, go_sem, Exit.thenS]
  refine wpS_cond (t := false) (by simp [Act.eval, Array.replicate]) ?_
  simp only [Bool.false_eq_true, if_false]
  refine wpS_of_wp (wp_skip ?_)
  cases c₀
  simp_all [bodyPostS, results, Tryz.results34]
theorem assertedN (n : Int) (w : World) : (Instr.typeAssert (.iface 26 (.int .i64 n)) 20 26 true).run Tryz.prog w = .ok (.tuple #[.int .i64 n, .bool true]) w := by
  have hu := Tryz.underlying26
  simp [Instr.typeAssert, run_underlying hu]
set_option maxRecDepth 100000 in
set_option maxHeartbeats 2000000 in
theorem all1_caught (k q : Nat) (nn x : List UInt8) (va vk : Value) (m : Int) (n : Int) (w : World) (hN : Nb w k nn va x vk) (hQ : Eb w q m) (hkq : k ≠ q) :
    CallsD Tryz.prog 34 #[.pointer (some ⟨k, 0, none⟩), .pointer (some ⟨q, 0, none⟩)] (.panicking (ERN n)) w fun e u' w' =>
      e = .returned (.tuple #[]) ∧ u' = .panicking [{ v := .iface 26 (.int .i64 n), recovered := true }] ∧ w' = caughtW w k q n := by
  obtain ⟨m0, m1, m2, m3, y0, y1, y2, y3⟩ := hN.cells
  obtain ⟨q0, q1⟩ := hQ.cells
  have hkl := hN.lt
  have hql : q < w.heap.size := (Array.getElem?_eq_some_iff.1 hQ).1
  refine callsD_of_wpS Tryz.func34 rfl fun c₀ cs hu => ?_
  apply wpS_seq
  apply wpS_region
  simp [wpOpsS, go_sem, recoverD, hu, Tryz.ntmps34, Exit.thenS, ERN]
  apply wpS_seq
  apply wpS_region
  simp [wpOpsS, go_sem, Exit.thenS]
  refine wpS_cond (t := true) (by simp [Act.eval, Array.replicate]) ?_
  simp only [if_true]
  have hta := assertedN n
  apply wpS_seq
  apply wpS_region
  simp [wpOpsS, go_sem, Exit.thenS, hta]
  apply wpS_seq
  apply wpS_seq
  apply wpS_region
  simp [wpOpsS, go_sem, Exit.thenS]
  refine wpS_cond (t := false) (by simp [Act.eval, Array.replicate]) ?_
  simp only [Bool.false_eq_true, if_false]
  refine wpS_of_wp (wp_skip ?_)
  simp only [Exit.thenS]
  apply wpS_region
  simp [wpOpsS, go_sem, m0, m1, m2, m3, y0, y1, y2, y3, q0, q1]
  clear m0 m1 m2 m3 y0 y1 y2 y3 q0 q1 hta hN hQ hkl hql hkq
  cases c₀
  simp_all [bodyPostS, results, Tryz.results34, caughtW, fin4]

/-- How All ends. -/
def AllEnd (w0 : World) (R : Except Int Nd) (e : Ending) (w' : World) : Prop :=
  Bl w0 w' ∧ match R with
    | .error n => e = .returned (.tuple #[.agg #[.string ⟨#[]⟩, .slice none 0 0, .string ⟨#[]⟩, .slice none 0 0], .int .i64 n])
    | .ok d => ∃ va vk, e = .returned (.tuple #[.agg #[.string ⟨d.n.toArray⟩, va, .string ⟨d.x.toArray⟩, vk], .int .i64 0]) ∧ ∃ P, AtP w' P va d.a ∧ NdS w' P vk d.k ∧ ∀ k, P k → w0.heap.size ≤ k ∧ k < w'.heap.size
set_option maxRecDepth 100000 in
set_option maxHeartbeats 8000000 in
theorem allX_c (s : List UInt8) (w : World) (hs : s.length ≤ 1000000) (hE : ES w) (hM : ML w) :
    Calls Tryz.prog 17 #[.string ⟨s.toArray⟩] w fun e w' => AllEnd w (XmP s) e w' := by
  have hmf : ∀ (fn : Fn) (first cap : Array Value) (w : World), (Instr.makeFunc fn first cap).run Tryz.prog w = .ok (.func fn first cap) w := fun _ _ _ _ => rfl
  obtain ⟨b, hb⟩ : ∃ b, b = w.heap.size + 2 := ⟨_, rfl⟩
  have hbE : 1 < b := by obtain ⟨_, _, h, _⟩ := hE; omega
  have hbM : 0 < b := by omega
  have hwb : w.heap.size ≤ b := by omega
  have hkq : w.heap.size ≠ w.heap.size + 1 := by omega
  have hbk : b ≠ w.heap.size := by omega
  have hkb : some w.heap.size ≠ some b := by simp; omega
  have hqb : some (w.heap.size + 1) ≠ some b := by simp; omega
  have hbl : Bl w (((w.alloc (.cells #[.string ⟨#[]⟩, .slice none 0 0, .string ⟨#[]⟩, .slice none 0 0] 25)).alloc (.cells #[.int .i64 0] 26)).alloc (.cells #[.string ⟨s.toArray⟩, .int .i64 0] 54)) := (((Bl.refl _).alloc _).alloc _).alloc _
  have hgw : w.grownBy (((w.alloc (.cells #[.string ⟨#[]⟩, .slice none 0 0, .string ⟨#[]⟩, .slice none 0 0] 25)).alloc (.cells #[.int .i64 0] 26)).alloc (.cells #[.string ⟨s.toArray⟩, .int .i64 0] 54)) (some b) := gb_bl hbl
  have hE0 := hE.of_bl hbl
  have hM0 := hM.of_bl hbl
  have hR0 : Xr (((w.alloc (.cells #[.string ⟨#[]⟩, .slice none 0 0, .string ⟨#[]⟩, .slice none 0 0] 25)).alloc (.cells #[.int .i64 0] 26)).alloc (.cells #[.string ⟨s.toArray⟩, .int .i64 0] 54)) b s s := by
    refine ⟨?_, List.suffix_refl s⟩
    unfold Xk
    rw [hb, Nat.sub_self]
    have h9 := heap_alloc_new ((w.alloc (.cells #[.string ⟨#[]⟩, .slice none 0 0, .string ⟨#[]⟩, .slice none 0 0] 25)).alloc (.cells #[.int .i64 0] 26)) (.cells #[.string ⟨s.toArray⟩, .int .i64 0] 54)
    rw [alloc_size, alloc_size] at h9
    exact h9
  have hN0 : Nb (((w.alloc (.cells #[.string ⟨#[]⟩, .slice none 0 0, .string ⟨#[]⟩, .slice none 0 0] 25)).alloc (.cells #[.int .i64 0] 26)).alloc (.cells #[.string ⟨s.toArray⟩, .int .i64 0] 54)) w.heap.size [] (.slice none 0 0) [] (.slice none 0 0) := ((nb_new w []).of_bl ((Bl.refl _).alloc _)).of_bl ((Bl.refl _).alloc _)
  have hQ0 : Eb (((w.alloc (.cells #[.string ⟨#[]⟩, .slice none 0 0, .string ⟨#[]⟩, .slice none 0 0] 25)).alloc (.cells #[.int .i64 0] 26)).alloc (.cells #[.string ⟨s.toArray⟩, .int .i64 0] 54)) (w.heap.size + 1) 0 := by
    have h9 := heap_alloc_new (w.alloc (.cells #[.string ⟨#[]⟩, .slice none 0 0, .string ⟨#[]⟩, .slice none 0 0] 25)) (.cells #[.int .i64 0] 26)
    rw [alloc_size] at h9
    exact Eb.of_gb h9 (gb_bl (b := none) ((Bl.refl _).alloc _)) (by simp)
  have MC := Lib.hid (fun W h hm => miscX_c b s s W h (by omega) hm hbM)
  subst hb
  cases h1 : miX s with
  | error n =>
    rw [h1] at MC
    have ER := Lib.hid (show XmP s = .error n by unfold XmP; rw [h1])
    clear h1
    go_enter_defers Tryz.func17, Tryz.ntmps17
    go_wp2_with (first | (go_at_call 35; (with_reducible refine (MC.out _ hR0 hM0).mono ?_); rintro e w1 ⟨hg1, rfl⟩))
    have hgx := gb_trans hgw hg1
    obtain ⟨m0, m1, m2, m3, y0, y1, y2, y3⟩ := (hN0.of_gb hg1 hkb).cells
    obtain ⟨q0, q1⟩ := (hQ0.of_gb hg1 hqb).cells
    refine leaves_cons (f := 34) (args := #[.pointer (some ⟨w.heap.size, 0, none⟩), .pointer (some ⟨w.heap.size + 1, 0, none⟩)]) (by simp) (by simp [go_sem]) ?_
    refine (all1_caught w.heap.size (w.heap.size + 1) _ _ _ _ _ n w1 (hN0.of_gb hg1 hkb) (hQ0.of_gb hg1 hqb) hkq).mono ?_
    rintro e u' wz ⟨rfl, rfl, rfl⟩
    obtain ⟨r0, r1, r2, r3, r4⟩ := caught_cells (hN0.of_gb hg1 hkb) hkq (hQ0.of_gb hg1 hqb) (n)
    have hB := caught_bl (n := n) hgx hwb
    clear m0 m1 m2 m3 y0 y1 y2 y3 q0 q1
    simp [Leaves, settle, results, Tryz.results17, go_sem, r0, r1, r2, r3, r4]
    refine ⟨hB, ?_⟩
    rw [ER.out]
  | ok t =>
    rw [h1] at MC
    have EC := Lib.hid (fun W h he hm => (show Calls Tryz.prog 36 #[.pointer (some ⟨w.heap.size + 2, 0, none⟩), .int .i64 1] W (ElEnd W (w.heap.size + 2) s (elF (2 * t.length + 2) 1 t)) from elementX_c (w.heap.size + 2) s hs hbE hbM (2 * t.length + 2) 1 t W (by omega) (by omega) h he hm))
    cases h2 : elF (2 * t.length + 2) 1 t with
    | error n =>
      rw [h2] at EC
      have ER := Lib.hid (show XmP s = .error n by unfold XmP; rw [h1]; simp only [h2])
      clear h1 h2
      go_enter_defers Tryz.func17, Tryz.ntmps17
      go_wp2_with (first | (go_at_call 35; (with_reducible refine (MC.out _ hR0 hM0).mono ?_); rintro e w1 ⟨hg1, rfl, hR1⟩) | (go_at_call 36; (with_reducible refine (EC.out _ hR1 (hE0.of_gb hg1 hbE) (hM0.of_gb hg1 hbM)).mono ?_); rintro e w2 ⟨hg2, rfl⟩))
      have hg12 := gb_trans hg1 hg2
      have hgx := gb_trans hgw hg12
      obtain ⟨m0, m1, m2, m3, y0, y1, y2, y3⟩ := (hN0.of_gb hg12 hkb).cells
      obtain ⟨q0, q1⟩ := (hQ0.of_gb hg12 hqb).cells
      refine leaves_cons (f := 34) (args := #[.pointer (some ⟨w.heap.size, 0, none⟩), .pointer (some ⟨w.heap.size + 1, 0, none⟩)]) (by simp) (by simp [go_sem]) ?_
      refine (all1_caught w.heap.size (w.heap.size + 1) _ _ _ _ _ n w2 (hN0.of_gb hg12 hkb) (hQ0.of_gb hg12 hqb) hkq).mono ?_
      rintro e u' wz ⟨rfl, rfl, rfl⟩
      obtain ⟨r0, r1, r2, r3, r4⟩ := caught_cells (hN0.of_gb hg12 hkb) hkq (hQ0.of_gb hg12 hqb) (n)
      have hB := caught_bl (n := n) hgx hwb
      clear m0 m1 m2 m3 y0 y1 y2 y3 q0 q1
      simp [Leaves, settle, results, Tryz.results17, go_sem, r0, r1, r2, r3, r4]
      refine ⟨hB, ?_⟩
      rw [ER.out]
    | ok du =>
      obtain ⟨d, t1⟩ := du
      rw [h2] at EC
      have MD := Lib.hid (fun W h hm => miscX_c (w.heap.size + 2) s t1 W h (by omega) hm hbM)
      cases h3 : miX t1 with
      | error n =>
        rw [h3] at MD
        have ER := Lib.hid (show XmP s = .error n by unfold XmP; rw [h1]; simp only [h2, h3])
        clear h1 h2 h3
        go_enter_defers Tryz.func17, Tryz.ntmps17
        go_wp2_with (first | (go_at_call 35; (with_reducible refine (MC.out _ hR0 hM0).mono ?_); rintro e w1 ⟨hg1, rfl, hR1⟩) | (go_at_call 36; (with_reducible refine (EC.out _ hR1 (hE0.of_gb hg1 hbE) (hM0.of_gb hg1 hbM)).mono ?_); rintro e w2 ⟨hg2, va, vk, rfl, hR2, P, hAt, hNk, hP⟩; obtain ⟨a1, c1, rfl, -⟩ := id hAt; obtain ⟨a2, c2, rfl, -⟩ := id hNk; have hg12 := gb_trans hg1 hg2; have hN2 := hN0.of_gb hg12 hkb; obtain ⟨m0, m1, m2, m3, y0, y1, y2, y3⟩ := hN2.cells; have hQ2 := hQ0.of_gb hg12 hqb; obtain ⟨q0, q1⟩ := hQ2.cells; have hR3 := fin4_xr (q := w.heap.size) (v0 := .string ⟨d.n.toArray⟩) (v1 := .slice a1 d.a.length c1) (v2 := .string ⟨d.x.toArray⟩) (v3 := .slice a2 d.k.length c2) hR2 hbk; have hg3 := fin4_gb0 (q := w.heap.size) (v0 := .string ⟨d.n.toArray⟩) (v1 := .slice a1 d.a.length c1) (v2 := .string ⟨d.x.toArray⟩) (v3 := .slice a2 d.k.length c2) (gb_trans hgw (gb_trans hg1 hg2)) (Nat.le_refl _); have hN3 := fin4_nb (n := d.n) (va := .slice a1 d.a.length c1) (x := d.x) (vk := .slice a2 d.k.length c2) hN2; have hQ3 := fin4_eb (v0 := .string ⟨d.n.toArray⟩) (v1 := .slice a1 d.a.length c1) (v2 := .string ⟨d.x.toArray⟩) (v3 := .slice a2 d.k.length c2) hQ2 hkq; have hM3 := hM.of_gb hg3 hbM; unfold fin4 at hR3 hg3 hN3 hQ3 hM3) | (go_at_call 35; (with_reducible refine (MD.out _ hR3 hM3).mono ?_); rintro e w3 ⟨hg4, rfl⟩; have hN4 := hN3.of_gb hg4 hkb; have hQ4 := hQ3.of_gb hg4 hqb; clear m0 m1 m2 m3 y0 y1 y2 y3 q0 q1; obtain ⟨m0, m1, m2, m3, y0, y1, y2, y3⟩ := hN4.cells; obtain ⟨q0, q1⟩ := hQ4.cells))
        have hgx := gb_trans hg3 hg4
        refine leaves_cons (f := 34) (args := #[.pointer (some ⟨w.heap.size, 0, none⟩), .pointer (some ⟨w.heap.size + 1, 0, none⟩)]) (by simp) (by simp [go_sem]) ?_
        refine (all1_caught w.heap.size (w.heap.size + 1) _ _ _ _ _ n w3 hN4 hQ4 hkq).mono ?_
        rintro e u' wz ⟨rfl, rfl, rfl⟩
        obtain ⟨r0, r1, r2, r3, r4⟩ := caught_cells hN4 hkq hQ4 (n)
        have hB := caught_bl (n := n) hgx hwb
        clear m0 m1 m2 m3 y0 y1 y2 y3 q0 q1
        simp [Leaves, settle, results, Tryz.results17, go_sem, r0, r1, r2, r3, r4]
        refine ⟨hB, ?_⟩
        rw [ER.out]
      | ok t2 =>
        rw [h3] at MD
        by_cases h4 : t2 = []
        · subst h4
          have ER := Lib.hid (show XmP s = .ok d by unfold XmP; rw [h1]; simp only [h2, h3, if_true])
          clear h1 h2 h3
          go_enter_defers Tryz.func17, Tryz.ntmps17
          go_wp2_with (first | (go_at_call 35; (with_reducible refine (MC.out _ hR0 hM0).mono ?_); rintro e w1 ⟨hg1, rfl, hR1⟩) | (go_at_call 36; (with_reducible refine (EC.out _ hR1 (hE0.of_gb hg1 hbE) (hM0.of_gb hg1 hbM)).mono ?_); rintro e w2 ⟨hg2, va, vk, rfl, hR2, P, hAt, hNk, hP⟩; obtain ⟨a1, c1, rfl, -⟩ := id hAt; obtain ⟨a2, c2, rfl, -⟩ := id hNk; have hg12 := gb_trans hg1 hg2; have hN2 := hN0.of_gb hg12 hkb; obtain ⟨m0, m1, m2, m3, y0, y1, y2, y3⟩ := hN2.cells; have hQ2 := hQ0.of_gb hg12 hqb; obtain ⟨q0, q1⟩ := hQ2.cells; have hR3 := fin4_xr (q := w.heap.size) (v0 := .string ⟨d.n.toArray⟩) (v1 := .slice a1 d.a.length c1) (v2 := .string ⟨d.x.toArray⟩) (v3 := .slice a2 d.k.length c2) hR2 hbk; have hg3 := fin4_gb0 (q := w.heap.size) (v0 := .string ⟨d.n.toArray⟩) (v1 := .slice a1 d.a.length c1) (v2 := .string ⟨d.x.toArray⟩) (v3 := .slice a2 d.k.length c2) (gb_trans hgw (gb_trans hg1 hg2)) (Nat.le_refl _); have hN3 := fin4_nb (n := d.n) (va := .slice a1 d.a.length c1) (x := d.x) (vk := .slice a2 d.k.length c2) hN2; have hQ3 := fin4_eb (v0 := .string ⟨d.n.toArray⟩) (v1 := .slice a1 d.a.length c1) (v2 := .string ⟨d.x.toArray⟩) (v3 := .slice a2 d.k.length c2) hQ2 hkq; have hM3 := hM.of_gb hg3 hbM; unfold fin4 at hR3 hg3 hN3 hQ3 hM3) | (go_at_call 35; (with_reducible refine (MD.out _ hR3 hM3).mono ?_); rintro e w3 ⟨hg4, rfl, hR4⟩; have hN4 := hN3.of_gb hg4 hkb; have hQ4 := hQ3.of_gb hg4 hqb; clear m0 m1 m2 m3 y0 y1 y2 y3 q0 q1; obtain ⟨m0, m1, m2, m3, y0, y1, y2, y3⟩ := hN4.cells; obtain ⟨q0, q1⟩ := hQ4.cells; obtain ⟨e0, e1, f0, f1⟩ := hR4.at_ (k := s.length) (by simp)))
          refine leaves_cons (f := 34) (args := #[.pointer (some ⟨w.heap.size, 0, none⟩), .pointer (some ⟨w.heap.size + 1, 0, none⟩)]) (by simp) (by simp [go_sem]) ?_
          refine (all1_idle ⟨w.heap.size, 0, none⟩ ⟨w.heap.size + 1, 0, none⟩ _).mono ?_
          rintro e u' wz ⟨rfl, rfl, rfl⟩
          obtain ⟨r0, r1, r2, r3, -⟩ := ((fin4_nb (n := d.n) (va := .slice a1 d.a.length c1) (x := d.x) (vk := .slice a2 d.k.length c2) hN4).far (r := w.heap.size + 1) (o := 0) (u := .int .i64 0) hkq).cells
          have r4 := ((fin4_eb (v0 := .string ⟨d.n.toArray⟩) (v1 := .slice a1 d.a.length c1) (v2 := .string ⟨d.x.toArray⟩) (v3 := .slice a2 d.k.length c2) hQ4 hkq).set 0).cells.1
          unfold fin4 at r0 r1 r2 r3 r4
          clear m0 m1 m2 m3 y0 y1 y2 y3 q0 q1 e0 e1 f0 f1
          simp [Leaves, settle, results, Tryz.results17, go_sem, r0, r1, r2, r3, r4]
          have hB3 : Below w.heap.size w w3 := below_gr (gb_trans hg3 hg4) (fun j e => by cases e; exact hwb) (Nat.le_refl _)
          have hs1 := hg1.size
          simp only [alloc_size] at hs1
          have hs2 := hg2.size
          have hs4 := hg4.size
          simp only [World.size_setCell] at hs4
          have hPk : ∀ k, k < w1.heap.size → ¬ P k := fun k hk h => by have := (hP k h).1; omega
          have S3 : Still P w2 w3 := (fin4_still (hPk w.heap.size (by omega))).trans (Still.of_gr hg4 (by rintro _ e; cases e; exact hPk _ (by omega)))
          have S5 : Still P w3 _ := (((((Still.set w3 w.heap.size 0 (.string ⟨d.n.toArray⟩) (hPk w.heap.size (by omega))).trans (Still.set _ w.heap.size 1 (.slice a1 d.a.length c1) (hPk _ (by omega)))).trans (Still.set _ w.heap.size 2 (.string ⟨d.x.toArray⟩) (hPk _ (by omega)))).trans (Still.set _ w.heap.size 3 (.slice a2 d.k.length c2) (hPk _ (by omega)))).trans (Still.set _ (w.heap.size + 1) 0 (.int .i64 0) (hPk _ (by omega))))
          refine ⟨Below.setCell (Below.setCell (Below.setCell (Below.setCell (Below.setCell hB3 (Nat.le_refl _) _) (Nat.le_refl _) _) (Nat.le_refl _) _) (Nat.le_refl _) _) (Nat.le_succ _) _, ?_⟩
          rw [ER.out]
          refine ⟨_, _, rfl, P, (hAt.still S3).still S5, (hNk.still S3).still S5, fun k hk => ⟨by have := (hP k hk).1; omega, ?_⟩⟩
          simp only [World.size_setCell]
          have := (hP k hk).2
          omega
        · have ER := Lib.hid (show XmP s = .error 1 by unfold XmP; rw [h1]; simp only [h2, h3, if_neg h4])
          have h4l := List.length_pos_iff.2 h4
          clear h1 h2 h3
          go_enter_defers Tryz.func17, Tryz.ntmps17
          go_wp2_with (first | (go_at_call 35; (with_reducible refine (MC.out _ hR0 hM0).mono ?_); rintro e w1 ⟨hg1, rfl, hR1⟩) | (go_at_call 36; (with_reducible refine (EC.out _ hR1 (hE0.of_gb hg1 hbE) (hM0.of_gb hg1 hbM)).mono ?_); rintro e w2 ⟨hg2, va, vk, rfl, hR2, P, hAt, hNk, hP⟩; obtain ⟨a1, c1, rfl, -⟩ := id hAt; obtain ⟨a2, c2, rfl, -⟩ := id hNk; have hg12 := gb_trans hg1 hg2; have hN2 := hN0.of_gb hg12 hkb; obtain ⟨m0, m1, m2, m3, y0, y1, y2, y3⟩ := hN2.cells; have hQ2 := hQ0.of_gb hg12 hqb; obtain ⟨q0, q1⟩ := hQ2.cells; have hR3 := fin4_xr (q := w.heap.size) (v0 := .string ⟨d.n.toArray⟩) (v1 := .slice a1 d.a.length c1) (v2 := .string ⟨d.x.toArray⟩) (v3 := .slice a2 d.k.length c2) hR2 hbk; have hg3 := fin4_gb0 (q := w.heap.size) (v0 := .string ⟨d.n.toArray⟩) (v1 := .slice a1 d.a.length c1) (v2 := .string ⟨d.x.toArray⟩) (v3 := .slice a2 d.k.length c2) (gb_trans hgw (gb_trans hg1 hg2)) (Nat.le_refl _); have hN3 := fin4_nb (n := d.n) (va := .slice a1 d.a.length c1) (x := d.x) (vk := .slice a2 d.k.length c2) hN2; have hQ3 := fin4_eb (v0 := .string ⟨d.n.toArray⟩) (v1 := .slice a1 d.a.length c1) (v2 := .string ⟨d.x.toArray⟩) (v3 := .slice a2 d.k.length c2) hQ2 hkq; have hM3 := hM.of_gb hg3 hbM; unfold fin4 at hR3 hg3 hN3 hQ3 hM3) | (go_at_call 35; (with_reducible refine (MD.out _ hR3 hM3).mono ?_); rintro e w3 ⟨hg4, rfl, hR4⟩; have hN4 := hN3.of_gb hg4 hkb; have hQ4 := hQ3.of_gb hg4 hqb; clear m0 m1 m2 m3 y0 y1 y2 y3 q0 q1; obtain ⟨m0, m1, m2, m3, y0, y1, y2, y3⟩ := hN4.cells; obtain ⟨q0, q1⟩ := hQ4.cells; have hl4 : t2.length ≤ s.length := hR4.len; obtain ⟨e0, e1, f0, f1⟩ := hR4.at_ (k := s.length - t2.length) rfl; have hlt4 : ((s.length - t2.length : Nat) : Int) < (s.length : Int) := (by omega); have hlt5 : s.length - t2.length < s.length := (by omega)) | (go_at_call 37; (with_reducible refine (fail_c 1 _).mono ?_); rintro e wf ⟨rfl, rfl⟩))
          have hgx := gb_trans hg3 hg4
          refine leaves_cons (f := 34) (args := #[.pointer (some ⟨w.heap.size, 0, none⟩), .pointer (some ⟨w.heap.size + 1, 0, none⟩)]) (by simp) (by simp [go_sem]) ?_
          refine (all1_caught w.heap.size (w.heap.size + 1) _ _ _ _ _ 1 w3 hN4 hQ4 hkq).mono ?_
          rintro e u' wz ⟨rfl, rfl, rfl⟩
          obtain ⟨r0, r1, r2, r3, r4⟩ := caught_cells hN4 hkq hQ4 (1)
          have hB := caught_bl (n := 1) hgx hwb
          clear m0 m1 m2 m3 y0 y1 y2 y3 q0 q1
          simp [Leaves, settle, results, Tryz.results17, go_sem, r0, r1, r2, r3, r4]
          refine ⟨hB, ?_⟩
          rw [ER.out]

end Go.Proofs.YtkacjnifhmgeiaaGreatDoor

namespace Go.Proofs.YtkacjnifhmgeiaaGreatDoor
open Go.RowKit

/-- What reading answers. -/
def rdX (s : List UInt8) : Except Int Nd := if 3000 < s.length then .error 2 else XmP s
set_option maxRecDepth 100000 in
set_option maxHeartbeats 4000000 in
theorem readX_c (s : List UInt8) (w : World) (hs : s.length ≤ 4611686018427387904) (hE : ES w) (hM : ML w) :
    Calls Tryz.prog 6 #[.string ⟨s.toArray⟩] w fun e w' => AllEnd w (rdX s) e w' := by
  have hZ0 := nb_new w []
  obtain ⟨z0, z1, z2, z3, y0, y1, y2, y3⟩ := hZ0.cells
  have hb0 : Bl w (w.alloc (.cells #[.string ⟨([] : List UInt8).toArray⟩, .slice none 0 0, .string ⟨#[]⟩, .slice none 0 0] 25)) := (Bl.refl _).alloc _
  by_cases h3 : 3000 < s.length
  · have h3' : (3000 : Int) < (s.length : Int) := by omega
    have ER := Lib.hid (show rdX s = .error 2 by unfold rdX; rw [if_pos h3])
    obtain ⟨r0, r1, r2, r3, -⟩ := (fin4_nb (n := []) (va := .slice none 0 0) (x := []) (vk := .slice none 0 0) hZ0).cells
    unfold fin4 at r0 r1 r2 r3
    go_enter Tryz.func6, Tryz.ntmps6
    go_wp2
    refine bodyPost_ret (v := .tuple #[.agg #[.string ⟨#[]⟩, .slice none 0 0, .string ⟨#[]⟩, .slice none 0 0], .int .i64 2]) (by simp [results, Tryz.results6, go_sem]) rfl ?_
    refine ⟨hb0, ?_⟩
    rw [ER.out]
  · have h3' : ¬ (3000 : Int) < (s.length : Int) := by omega
    have HR := Lib.hid (show rdX s = XmP s by unfold rdX; rw [if_neg h3])
    have AC := Lib.hid (allX_c s (w.alloc (.cells #[.string ⟨([] : List UInt8).toArray⟩, .slice none 0 0, .string ⟨#[]⟩, .slice none 0 0] 25)) (by omega) (hE.of_bl hb0) (hM.of_bl hb0))
    cases hX : XmP s with
    | error n =>
      rw [hX] at AC HR
      clear hX
      go_enter Tryz.func6, Tryz.ntmps6
      go_wp2_with (go_at_call 17; (with_reducible refine AC.out.mono ?_); rintro e w1 ⟨hb1, rfl⟩; have hZ1 := hZ0.of_bl hb1; clear z0 z1 z2 z3 y0 y1 y2 y3; obtain ⟨z0, z1, z2, z3, y0, y1, y2, y3⟩ := hZ1.cells)
      obtain ⟨r0, r1, r2, r3, -⟩ := (fin4_nb (n := []) (va := .slice none 0 0) (x := []) (vk := .slice none 0 0) hZ1).cells
      unfold fin4 at r0 r1 r2 r3
      refine bodyPost_ret (v := .tuple #[.agg #[.string ⟨#[]⟩, .slice none 0 0, .string ⟨#[]⟩, .slice none 0 0], .int .i64 n]) (by simp [results, Tryz.results6, go_sem, r0, r1, r2, r3]) rfl ?_
      have hb2 := hb0.trans hb1
      refine ⟨Below.setCell (Below.setCell (Below.setCell (Below.setCell hb2 (Nat.le_refl _) _) (Nat.le_refl _) _) (Nat.le_refl _) _) (Nat.le_refl _) _, ?_⟩
      rw [HR.out]
    | ok d =>
      rw [hX] at AC HR
      clear hX
      go_enter Tryz.func6, Tryz.ntmps6
      go_wp2_with (go_at_call 17; (with_reducible refine AC.out.mono ?_); rintro e w1 ⟨hb1, va, vk, rfl, P, hAt, hNk, hP⟩; obtain ⟨a1, c1, rfl, -⟩ := id hAt; obtain ⟨a2, c2, rfl, -⟩ := id hNk; have hZ1 := hZ0.of_bl hb1; clear z0 z1 z2 z3 y0 y1 y2 y3; obtain ⟨z0, z1, z2, z3, y0, y1, y2, y3⟩ := hZ1.cells)
      obtain ⟨r0, r1, r2, r3, -⟩ := (fin4_nb (n := d.n) (va := .slice a1 d.a.length c1) (x := d.x) (vk := .slice a2 d.k.length c2) hZ1).cells
      unfold fin4 at r0 r1 r2 r3
      refine bodyPost_ret (v := .tuple #[.agg #[.string ⟨d.n.toArray⟩, .slice a1 d.a.length c1, .string ⟨d.x.toArray⟩, .slice a2 d.k.length c2], .int .i64 0]) (by simp [results, Tryz.results6, go_sem, r0, r1, r2, r3]) rfl ?_
      have hb2 := hb0.trans hb1
      have hsz := alloc_size w (.cells #[.string ⟨([] : List UInt8).toArray⟩, .slice none 0 0, .string ⟨#[]⟩, .slice none 0 0] 25)
      have hPk : ¬ P w.heap.size := fun h => by have := (hP _ h).1; omega
      refine ⟨Below.setCell (Below.setCell (Below.setCell (Below.setCell hb2 (Nat.le_refl _) _) (Nat.le_refl _) _) (Nat.le_refl _) _) (Nat.le_refl _) _, ?_⟩
      rw [HR.out]
      have S4 : Still P w1 _ := (((Still.set w1 w.heap.size 0 (.string ⟨d.n.toArray⟩) hPk).trans (Still.set _ w.heap.size 1 (.slice a1 d.a.length c1) hPk)).trans (Still.set _ w.heap.size 2 (.string ⟨d.x.toArray⟩) hPk)).trans (Still.set _ w.heap.size 3 (.slice a2 d.k.length c2) hPk)
      refine ⟨_, _, rfl, P, hAt.still S4, hNk.still S4, fun k hk => ⟨by have := (hP k hk).1; omega, ?_⟩⟩
      simp only [World.size_setCell]
      exact (hP k hk).2
end Go.Proofs.YtkacjnifhmgeiaaGreatDoor

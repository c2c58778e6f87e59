/- Documents: an element. -/
import Derived.Test.YtkacjnifhmgeiaaGreatDoorXmlI
import Derived.Test.YtkacjnifhmgeiaaGreatDoorGrpI
namespace Go.Proofs.YtkacjnifhmgeiaaGreatDoor
open Go.RowKit

/-- A node in a block of its own. -/
def Nb (w : World) (q : Nat) (n : List UInt8) (va : Value) (x : List UInt8) (vk : Value) : Prop := w.heap[q]? = some (.cells #[.string ⟨n.toArray⟩, va, .string ⟨x.toArray⟩, vk] 25 (0, 0))
theorem Nb.lt {w : World} {q : Nat} {n x : List UInt8} {va vk : Value} (h : Nb w q n va x vk) : q < w.heap.size := (Array.getElem?_eq_some_iff.1 h).1
theorem Nb.cells {w : World} {q : Nat} {n x : List UInt8} {va vk : Value} (h : Nb w q n va x vk) :
    w.cell? ⟨q, 0, none⟩ = some (.string ⟨n.toArray⟩) ∧ w.cell? ⟨q, 1, none⟩ = some va ∧ w.cell? ⟨q, 2, none⟩ = some (.string ⟨x.toArray⟩) ∧ w.cell? ⟨q, 3, none⟩ = some vk ∧
    w.frozen? ⟨q, 0, none⟩ = false ∧ w.frozen? ⟨q, 1, none⟩ = false ∧ w.frozen? ⟨q, 2, none⟩ = false ∧ w.frozen? ⟨q, 3, none⟩ = false := by
  unfold Nb at h
  simp [World.cell?, World.frozen?, h]
theorem Nb.of_gb {w w' : World} {q : Nat} {n x : List UInt8} {va vk : Value} {g : Option Nat} (h : Nb w q n va x vk) (hg : w.grownBy w' g) (hne : some q ≠ g) : Nb w' q n va x vk :=
  (hg.block q h.lt hne).trans h
theorem Nb.of_bl {w w' : World} {q : Nat} {n x : List UInt8} {va vk : Value} (h : Nb w q n va x vk) (hb : Bl w w') : Nb w' q n va x vk := (Below.block hb q h.lt).trans h
theorem Nb.set1 {w : World} {q : Nat} {n x : List UInt8} {va vk : Value} (h : Nb w q n va x vk) (u : Value) : Nb (w.setCell ⟨q, 1, none⟩ u) q n u x vk := by
  unfold Nb at *
  simp [World.setCell, h, Array.getElem?_modify]
theorem Nb.set3 {w : World} {q : Nat} {n x : List UInt8} {va vk : Value} (h : Nb w q n va x vk) (u : Value) : Nb (w.setCell ⟨q, 3, none⟩ u) q n va x u := by
  unfold Nb at *
  simp [World.setCell, h, Array.getElem?_modify]
theorem Nb.far {w : World} {q r o : Nat} {n x : List UInt8} {va vk u : Value} (h : Nb w q n va x vk) (hne : q ≠ r) : Nb (w.setCell ⟨r, o, none⟩ u) q n va x vk := h.of_gb (gb_set (gb_refl _ _) o u) (by simp; exact hne)
theorem nb_new (w : World) (n : List UInt8) : Nb (w.alloc (.cells #[.string ⟨n.toArray⟩, .slice none 0 0, .string ⟨#[]⟩, .slice none 0 0] 25)) w.heap.size n (.slice none 0 0) [] (.slice none 0 0) := heap_alloc_new _ _
/-- The four cells of a result are written. -/
def fin4 (W : World) (q : Nat) (v0 v1 v2 v3 : Value) : World := (((W.setCell ⟨q, 0, none⟩ v0).setCell ⟨q, 1, none⟩ v1).setCell ⟨q, 2, none⟩ v2).setCell ⟨q, 3, none⟩ v3
theorem fin4_still {W : World} {q : Nat} {v0 v1 v2 v3 : Value} {P : Nat → Prop} (h : ¬ P q) : Still P W (fin4 W q v0 v1 v2 v3) :=
  (((Still.set _ _ _ _ h).trans (Still.set _ _ _ _ h)).trans (Still.set _ _ _ _ h)).trans (Still.set _ _ _ _ h)
theorem fin4_gb {w W : World} {q : Nat} {v0 v1 v2 v3 : Value} {g : Option Nat} (h : w.grownBy W g) (hq : w.heap.size ≤ q) : w.grownBy (fin4 W q v0 v1 v2 v3) g :=
  gb_setnew (gb_setnew (gb_setnew (gb_setnew h hq _ _) hq _ _) hq _ _) hq _ _
theorem fin4_xr {W : World} {q b : Nat} {s t : List UInt8} {v0 v1 v2 v3 : Value} (h : Xr W b s t) (hne : b ≠ q) : Xr (fin4 W q v0 v1 v2 v3) b s t := (((h.far hne).far hne).far hne).far hne
theorem fin4_size {W : World} {q : Nat} {v0 v1 v2 v3 : Value} : (fin4 W q v0 v1 v2 v3).heap.size = W.heap.size := by simp [fin4]

theorem fin4_nb {W : World} {q : Nat} {n m x y : List UInt8} {va vb vk vl : Value} (h : Nb W q m vb y vl) : Nb (fin4 W q (.string ⟨n.toArray⟩) va (.string ⟨x.toArray⟩) vk) q n va x vk := by
  unfold Nb at *
  simp [fin4, World.setCell, h, Array.getElem?_modify]
/-- A contract, and an idle goal for the walk of a region behind a callee that panics. -/
theorem mono_ghost {P : Program} {f : FuncId} {args : Array Value} {w : World} {S R : Ending → World → Prop} (v : Value) (h : Calls P f args w S) (hS : ∀ e w', S e w' → R e w') (_ : ∀ w', Hid False → R (.returned v) w') : Calls P f args w R := h.mono hS
theorem alloc_size (w : World) (o : Obj) : (w.alloc o).heap.size = w.heap.size + 1 := by simp
theorem lt_alloc {w w2 : World} {o : Obj} {g : Option Nat} (h : (w.alloc o).grownBy w2 g) : w.heap.size < w2.heap.size := by
  have := h.size
  rw [alloc_size] at this; omega
/-- Attributes that were read stay, what was laid before them being written. -/
theorem still_at {w2 w4 w6 : World} {o : Obj} {v u : Value} {a : List Atr} (h : AtO w4 (w2.alloc o).heap.size v a) (hq : Qt (w4.setCell ⟨w2.heap.size, 1, none⟩ u) w6) (_hs : (w2.alloc o).heap.size = w2.heap.size + 1) : AtP w6 (fun k => w2.heap.size < k ∧ k < w6.heap.size) v a := by
  have h1 := h.atp
  have h2 := (h1.still (Still.set w4 w2.heap.size 1 u (by rw [alloc_size]; omega))).still (Still.of_bl hq.bl)
  have hz := Below.size hq.bl
  simp only [World.size_setCell] at hz
  refine h2.mono (fun k hk => ⟨?_, by omega⟩)
  have := hk.1
  rw [alloc_size] at this; omega

set_option maxRecDepth 100000 in
set_option maxHeartbeats 8000000 in
theorem elementX_c (b : Nat) (s : List UInt8) (hs : s.length ≤ 1000000) (hbE : 1 < b) (hbM : 0 < b) : ∀ k, ElC b s k := by
  intro k
  induction k using Nat.strongRecOn with
  | ind k ih =>
  intro deep t w hk hdp hR hE hM
  cases k with
  | zero => omega
  | succ k =>
  have hbw := hR.rk.lt
  have IH := Lib.hid (fun j (hj : j < k) => ih j (by omega))
  clear ih
  have HE := Lib.hid (elF_eq k deep t)
  have hR0 : Xr (w.alloc (.cells #[.string ⟨#[]⟩, .slice none 0 0, .string ⟨#[]⟩, .slice none 0 0] 25)) b s t := hR.of_bl ((Bl.refl _).alloc _)
  have hlt := hR.len
  have hbq : b ≠ w.heap.size := by omega
  have hg0 : w.grownBy (w.alloc (.cells #[.string ⟨#[]⟩, .slice none 0 0, .string ⟨#[]⟩, .slice none 0 0] 25)) (some b) := gb_bl ((Bl.refl _).alloc _)
  have hZ0 := nb_new w []
  have hbs : some w.heap.size ≠ some b := by simp; omega
  cases h0 : pre [60] t with
  | false =>
    have ER := Lib.hid (show elF (k + 1) deep t = .error 1 by rw [HE.out, if_pos h0])
    have N0 := Lib.hid (fun W h => needX_no [60] b s t W h (by omega) h0)
    clear h0 HE
    go_enter Tryz.func36, Tryz.ntmps36
    go_wp2_with (go_at_call 60; (with_reducible refine (N0.out _ hR0).mono ?_); rintro e w1 ⟨rfl, hq1⟩)
    refine ⟨rfl, gb_trans hg0 (gb_qt hq1), ?_⟩
    rw [ER.out]
  | true =>
    have HE1 := Lib.hid (show elF (k + 1) deep t = _ from by rw [HE.out, if_neg (by simp [h0])])
    have hpl := pre_len h0
    simp only [List.length_cons, List.length_nil] at hpl
    have N0 := Lib.hid (fun W h => needX_yes [60] b s t W h (by omega) h0)
    simp only [List.length_singleton] at N0
    clear h0 HE
    have TX := Lib.hid (fun W h => titleX_c b s (t.drop 1) W h (by omega))
    cases h1 : tiX (t.drop 1) with
    | error n =>
      rw [h1] at TX HE1
      clear h1
      go_enter Tryz.func36, Tryz.ntmps36
      go_wp2_with (first | (go_at_call 60; (with_reducible refine (N0.out _ hR0).mono ?_); rintro e w1 ⟨rfl, hR1, hg1⟩) | (go_at_call 61; (with_reducible refine (TX.out _ hR1).mono ?_); rintro e w2 ⟨hg2, rfl⟩))
      refine ⟨rfl, gb_trans hg0 (gb_trans hg1 hg2), ?_⟩
      rw [HE1.out]
    | ok nt =>
      obtain ⟨n, t1⟩ := nt
      rw [h1] at TX HE1
      obtain ⟨htl, hti⟩ := tiX_len h1
      rw [List.length_drop] at htl
      have hnl : 1 ≤ n.length := List.length_pos_iff.2 (isTi_ne hti)
      clear h1
      by_cases hd8 : 8 < deep
      · have hd8' : (8 : Int) < (deep : Int) := by omega
        have ER := Lib.hid (show elF (k + 1) deep t = .error 2 by rw [HE1.out]; simp only [if_pos hd8])
        clear HE1
        go_enter Tryz.func36, Tryz.ntmps36
        go_wp2_with (first | (go_at_call 60; (with_reducible refine (N0.out _ hR0).mono ?_); rintro e w1 ⟨rfl, hR1, hg1⟩) | (go_at_call 61; (with_reducible refine (TX.out _ hR1).mono ?_); rintro e w2 ⟨hg2, rfl, hR2⟩) | (go_at_call 37; (with_reducible refine (fail_c 2 _).mono ?_); rintro e w3 ⟨rfl, rfl⟩))
        refine ⟨rfl, gb_trans hg0 (gb_trans hg1 (gb_trans hg2 (gb_bl ((Bl.refl _).alloc _)))), ?_⟩
        rw [ER.out]
      · have hd8' : ¬ (8 : Int) < (deep : Int) := by omega
        have HE2 := Lib.hid (show elF (k + 1) deep t = (match atrX t1 with | .error e => .error e | .ok (a, t2) => elR k deep n a t2) by rw [HE1.out]; simp only [if_neg hd8]; rfl)
        clear HE1
        have AX := Lib.hid (fun W h he hm => attrsX_c b s t1 W h (by omega) he hbE hm hbM)
        cases h2 : atrX t1 with
        | error e2 =>
          rw [h2] at AX HE2
          clear h2
          go_enter Tryz.func36, Tryz.ntmps36
          go_wp2_with (first | (go_at_call 60; (with_reducible refine (N0.out _ hR0).mono ?_); rintro e w1 ⟨rfl, hR1, hg1⟩) | (go_at_call 61; (with_reducible refine (TX.out _ hR1).mono ?_); rintro e w2 ⟨hg2, rfl, hR2⟩; have hR3 := (hR2.of_bl ((Bl.refl _).alloc _) : Xr (w2.alloc (.cells #[.string ⟨n.toArray⟩, .slice none 0 0, .string ⟨#[]⟩, .slice none 0 0] 25)) b s t1); have hg3 := gb_trans hg0 (gb_trans hg1 (gb_trans hg2 (gb_bl ((Bl.refl w2).alloc (.cells #[.string ⟨n.toArray⟩, .slice none 0 0, .string ⟨#[]⟩, .slice none 0 0] 25))))); have hN3 := nb_new w2 n; have hsz2 := lt_alloc (gb_trans hg1 hg2); have hqb : w2.heap.size ≠ b := (by omega); have hq45 : w.heap.size ≠ w2.heap.size := (by omega); have hZ3 := ((hZ0.of_gb hg1 hbs).of_gb hg2 hbs).of_bl ((Bl.refl w2).alloc (.cells #[.string ⟨n.toArray⟩, .slice none 0 0, .string ⟨#[]⟩, .slice none 0 0] 25)); have hs3 := alloc_size w2 (.cells #[.string ⟨n.toArray⟩, .slice none 0 0, .string ⟨#[]⟩, .slice none 0 0] 25)) | (go_at_call 62; (with_reducible refine (AX.out _ hR3 (hE.of_gb hg3 hbE) (hM.of_gb hg3 hbM)).mono ?_); rintro e w4 ⟨hg4, rfl⟩))
          refine ⟨rfl, gb_trans hg3 hg4, ?_⟩
          rw [HE2.out]
        | ok at2 =>
          obtain ⟨a, t2⟩ := at2
          rw [h2] at AX HE2
          have hl2 := atrX_len h2
          have HE3 := Lib.hid (show elF (k + 1) deep t = elR k deep n a t2 from by rw [HE2.out])
          clear h2 HE2
          have BS := Lib.hid (fun W h => beginsX_c [47, 62] b s t2 W h (by omega))
          obtain ⟨kk, hkk⟩ : ∃ kk, kk = s.length - t2.length := ⟨_, rfl⟩
          have HK := Lib.hid hkk
          cases h3 : pre [47, 62] t2 with
          | true =>
            rw [h3] at BS
            have hp2 := pre_len h3
            simp only [List.length_cons, List.length_nil] at hp2
            have hkl : kk + 2 ≤ s.length := by omega
            have ER := Lib.hid (show elF (k + 1) deep t = .ok (.mk n a [] [], t2.drop 2) by rw [HE3.out]; unfold elR; rw [if_pos h3])
            clear h3 HE3 hkk
            go_enter Tryz.func36, Tryz.ntmps36
            go_wp2_with (first | (go_at_call 60; (with_reducible refine (N0.out _ hR0).mono ?_); rintro e w1 ⟨rfl, hR1, hg1⟩) | (go_at_call 61; (with_reducible refine (TX.out _ hR1).mono ?_); rintro e w2 ⟨hg2, rfl, hR2⟩; have hR3 := (hR2.of_bl ((Bl.refl _).alloc _) : Xr (w2.alloc (.cells #[.string ⟨n.toArray⟩, .slice none 0 0, .string ⟨#[]⟩, .slice none 0 0] 25)) b s t1); have hg3 := gb_trans hg0 (gb_trans hg1 (gb_trans hg2 (gb_bl ((Bl.refl w2).alloc (.cells #[.string ⟨n.toArray⟩, .slice none 0 0, .string ⟨#[]⟩, .slice none 0 0] 25))))); have hN3 := nb_new w2 n; have hsz2 := lt_alloc (gb_trans hg1 hg2); have hqb : w2.heap.size ≠ b := (by omega); have hq45 : w.heap.size ≠ w2.heap.size := (by omega); have hZ3 := ((hZ0.of_gb hg1 hbs).of_gb hg2 hbs).of_bl ((Bl.refl w2).alloc (.cells #[.string ⟨n.toArray⟩, .slice none 0 0, .string ⟨#[]⟩, .slice none 0 0] 25)); have hs3 := alloc_size w2 (.cells #[.string ⟨n.toArray⟩, .slice none 0 0, .string ⟨#[]⟩, .slice none 0 0] 25)) | (go_at_call 62; (with_reducible refine (AX.out _ hR3 (hE.of_gb hg3 hbE) (hM.of_gb hg3 hbM)).mono ?_); rintro e w4 ⟨hg4, va, rfl, hO4, hR4⟩; obtain ⟨ao, co, rfl, hco⟩ := own_shp (show w4.ownsRow _ 39 2 va a.length (atC a) from hO4); have hN4 := hN3.of_gb hg4 (by simp; omega); have hZ4 := hZ3.of_gb hg4 hbs; obtain ⟨m0, m1, m2, m3, g0, g1, g2, g3⟩ := hN4.cells; have hR5 := hR4.far (o := 1) (u := .slice ao a.length co) (Ne.symm hqb); have hg5 := gb_setnew (gb_trans hg3 hg4) (Nat.le_of_lt hsz2) 1 (.slice ao a.length co)) | (go_at_call 63; (with_reducible refine (BS.out _ hR5).mono ?_); rintro e w6 ⟨rfl, hq6⟩; have hR6 := hR5.of_bl hq6.bl; have hN6 := (hN4.set1 (.slice ao a.length co)).of_bl hq6.bl; have hZ6 := (hZ4.far (o := 1) (u := .slice ao a.length co) hq45).of_bl hq6.bl; have hg6 := gb_trans hg5 (gb_qt hq6); have hA6 := still_at hO4 (w2 := w2) (w6 := w6) hq6 hs3; clear m0 m1 m2 m3 g0 g1 g2 g3; obtain ⟨m0, m1, m2, m3, g0, g1, g2, g3⟩ := hN6.cells; obtain ⟨z0, z1, z2, z3, y0, y1, y2, y3⟩ := hZ6.cells; obtain ⟨c0, c1, f0, f1⟩ := hR6.at_ HK.out))
            have hFz := (fin4_nb (n := n) (va := .slice ao a.length co) (x := []) (vk := .slice none 0 0) (hZ6.far (r := b) (o := 1) (u := .int .i64 ((kk : Int) + 2)) (Ne.symm hbq))).cells
            unfold fin4 at hFz
            obtain ⟨q0, q1, q2, q3, -⟩ := hFz
            refine bodyPost_ret (v := .agg #[.string ⟨n.toArray⟩, .slice ao a.length co, .string ⟨([] : List UInt8).toArray⟩, .slice none 0 0]) (by simp [results, Tryz.results36, go_sem, q0, q1, q2, q3]) rfl ?_
            have hRz := hR6.adv hp2 (n := (kk : Int) + 2) (by rw [← HK.out]; omega)
            have hgz := gb_set (b := b) hg6 1 (.int .i64 ((kk : Int) + 2))
            refine ⟨fin4_gb (q := w.heap.size) hgz (Nat.le_refl _), ?_⟩
            rw [ER.out]
            refine ⟨_, _, rfl, fin4_xr hRz hbq, fun k => w2.heap.size < k ∧ k < w6.heap.size, (hA6.still (Still.set _ _ _ _ (by omega))).still (fin4_still (by omega)), NdS.nil _ _, fun k hk => ⟨by omega, by simp only [World.size_setCell]; exact hk.2⟩⟩
          | false =>
            rw [h3] at BS
            have HE4 := Lib.hid (show elF (k + 1) deep t = if pre [62] t2 = false then .error 1 else (match kiF k deep (t2.drop 1) [] with | .error e => .error e | .ok (l, t4) => match tiX t4 with | .error e => .error e | .ok (m, t5) => if m ≠ n then .error 4 else if pre [62] (wsX t5) = false then .error 1 else .ok (.mk n a [] l, (wsX t5).drop 1)) by rw [HE3.out]; unfold elR; rw [if_neg (by simp [h3])]; rfl)
            clear h3 HE3 hkk
            cases h4 : pre [62] t2 with
            | false =>
              have ER := Lib.hid (show elF (k + 1) deep t = .error 1 by rw [HE4.out, if_pos h4])
              have N7 := Lib.hid (fun W h => needX_no [62] b s t2 W h (by omega) h4)
              clear h4 HE4
              go_enter Tryz.func36, Tryz.ntmps36
              go_wp2_with (first | (go_at_call 60; (with_reducible refine (N0.out _ hR0).mono ?_); rintro e w1 ⟨rfl, hR1, hg1⟩) | (go_at_call 61; (with_reducible refine (TX.out _ hR1).mono ?_); rintro e w2 ⟨hg2, rfl, hR2⟩; have hR3 := (hR2.of_bl ((Bl.refl _).alloc _) : Xr (w2.alloc (.cells #[.string ⟨n.toArray⟩, .slice none 0 0, .string ⟨#[]⟩, .slice none 0 0] 25)) b s t1); have hg3 := gb_trans hg0 (gb_trans hg1 (gb_trans hg2 (gb_bl ((Bl.refl w2).alloc (.cells #[.string ⟨n.toArray⟩, .slice none 0 0, .string ⟨#[]⟩, .slice none 0 0] 25))))); have hN3 := nb_new w2 n; have hsz2 := lt_alloc (gb_trans hg1 hg2); have hqb : w2.heap.size ≠ b := (by omega); have hq45 : w.heap.size ≠ w2.heap.size := (by omega); have hZ3 := ((hZ0.of_gb hg1 hbs).of_gb hg2 hbs).of_bl ((Bl.refl w2).alloc (.cells #[.string ⟨n.toArray⟩, .slice none 0 0, .string ⟨#[]⟩, .slice none 0 0] 25)); have hs3 := alloc_size w2 (.cells #[.string ⟨n.toArray⟩, .slice none 0 0, .string ⟨#[]⟩, .slice none 0 0] 25)) | (go_at_call 62; (with_reducible refine (AX.out _ hR3 (hE.of_gb hg3 hbE) (hM.of_gb hg3 hbM)).mono ?_); rintro e w4 ⟨hg4, va, rfl, hO4, hR4⟩; obtain ⟨ao, co, rfl, hco⟩ := own_shp (show w4.ownsRow _ 39 2 va a.length (atC a) from hO4); have hN4 := hN3.of_gb hg4 (by simp; omega); have hZ4 := hZ3.of_gb hg4 hbs; obtain ⟨m0, m1, m2, m3, g0, g1, g2, g3⟩ := hN4.cells; have hR5 := hR4.far (o := 1) (u := .slice ao a.length co) (Ne.symm hqb); have hg5 := gb_setnew (gb_trans hg3 hg4) (Nat.le_of_lt hsz2) 1 (.slice ao a.length co)) | (go_at_call 63; (with_reducible refine (BS.out _ hR5).mono ?_); rintro e w6 ⟨rfl, hq6⟩; have hR6 := hR5.of_bl hq6.bl; have hN6 := (hN4.set1 (.slice ao a.length co)).of_bl hq6.bl; have hZ6 := (hZ4.far (o := 1) (u := .slice ao a.length co) hq45).of_bl hq6.bl; have hg6 := gb_trans hg5 (gb_qt hq6); have hA6 := still_at hO4 (w2 := w2) (w6 := w6) hq6 hs3; clear m0 m1 m2 m3 g0 g1 g2 g3; obtain ⟨m0, m1, m2, m3, g0, g1, g2, g3⟩ := hN6.cells; obtain ⟨z0, z1, z2, z3, y0, y1, y2, y3⟩ := hZ6.cells; obtain ⟨c0, c1, f0, f1⟩ := hR6.at_ HK.out) | (go_at_call 60; (with_reducible refine (N7.out _ hR6).mono ?_); rintro e w7 ⟨rfl, hq7⟩))
              refine ⟨rfl, gb_trans hg6 (gb_qt hq7), ?_⟩
              rw [ER.out]
            | true =>
              have HE5 := Lib.hid (show elF (k + 1) deep t = _ from by rw [HE4.out, if_neg (by simp [h4])])
              have hp1 := pre_len h4
              simp only [List.length_cons, List.length_nil] at hp1
              have N7 := Lib.hid (fun W h => needX_yes [62] b s t2 W h (by omega) h4)
              simp only [List.length_singleton] at N7
              clear h4 HE4
              have KX := Lib.hid (fun W h he hm => kidsX_c b s k deep (t2.drop 1) W IH.out (by rw [List.length_drop]; omega) (by omega) h hs he hbE hm hbM)
              cases h5 : kiF k deep (t2.drop 1) [] with
              | error e5 =>
                rw [h5] at KX HE5
                clear h5
                go_enter Tryz.func36, Tryz.ntmps36
                go_wp2_with (first | (go_at_call 60; (with_reducible refine (N0.out _ hR0).mono ?_); rintro e w1 ⟨rfl, hR1, hg1⟩) | (go_at_call 61; (with_reducible refine (TX.out _ hR1).mono ?_); rintro e w2 ⟨hg2, rfl, hR2⟩; have hR3 := (hR2.of_bl ((Bl.refl _).alloc _) : Xr (w2.alloc (.cells #[.string ⟨n.toArray⟩, .slice none 0 0, .string ⟨#[]⟩, .slice none 0 0] 25)) b s t1); have hg3 := gb_trans hg0 (gb_trans hg1 (gb_trans hg2 (gb_bl ((Bl.refl w2).alloc (.cells #[.string ⟨n.toArray⟩, .slice none 0 0, .string ⟨#[]⟩, .slice none 0 0] 25))))); have hN3 := nb_new w2 n; have hsz2 := lt_alloc (gb_trans hg1 hg2); have hqb : w2.heap.size ≠ b := (by omega); have hq45 : w.heap.size ≠ w2.heap.size := (by omega); have hZ3 := ((hZ0.of_gb hg1 hbs).of_gb hg2 hbs).of_bl ((Bl.refl w2).alloc (.cells #[.string ⟨n.toArray⟩, .slice none 0 0, .string ⟨#[]⟩, .slice none 0 0] 25)); have hs3 := alloc_size w2 (.cells #[.string ⟨n.toArray⟩, .slice none 0 0, .string ⟨#[]⟩, .slice none 0 0] 25)) | (go_at_call 62; (with_reducible refine (AX.out _ hR3 (hE.of_gb hg3 hbE) (hM.of_gb hg3 hbM)).mono ?_); rintro e w4 ⟨hg4, va, rfl, hO4, hR4⟩; obtain ⟨ao, co, rfl, hco⟩ := own_shp (show w4.ownsRow _ 39 2 va a.length (atC a) from hO4); have hN4 := hN3.of_gb hg4 (by simp; omega); have hZ4 := hZ3.of_gb hg4 hbs; obtain ⟨m0, m1, m2, m3, g0, g1, g2, g3⟩ := hN4.cells; have hR5 := hR4.far (o := 1) (u := .slice ao a.length co) (Ne.symm hqb); have hg5 := gb_setnew (gb_trans hg3 hg4) (Nat.le_of_lt hsz2) 1 (.slice ao a.length co)) | (go_at_call 63; (with_reducible refine (BS.out _ hR5).mono ?_); rintro e w6 ⟨rfl, hq6⟩; have hR6 := hR5.of_bl hq6.bl; have hN6 := (hN4.set1 (.slice ao a.length co)).of_bl hq6.bl; have hZ6 := (hZ4.far (o := 1) (u := .slice ao a.length co) hq45).of_bl hq6.bl; have hg6 := gb_trans hg5 (gb_qt hq6); have hA6 := still_at hO4 (w2 := w2) (w6 := w6) hq6 hs3; clear m0 m1 m2 m3 g0 g1 g2 g3; obtain ⟨m0, m1, m2, m3, g0, g1, g2, g3⟩ := hN6.cells; obtain ⟨z0, z1, z2, z3, y0, y1, y2, y3⟩ := hZ6.cells; obtain ⟨c0, c1, f0, f1⟩ := hR6.at_ HK.out) | (go_at_call 60; (with_reducible refine (N7.out _ hR6).mono ?_); rintro e w7 ⟨rfl, hR7, hg7⟩; have hN7 := hN6.of_gb hg7 (by simp; omega); have hZ7 := hZ6.of_gb hg7 hbs; have hg7' := gb_trans hg6 hg7; have hA7 := hA6.still (Still.of_gr hg7 (by rintro _ e; cases e; omega))) | (go_at_call 64; (with_reducible refine (KX.out _ hR7 (hE.of_gb hg7' hbE) (hM.of_gb hg7' hbM)).mono ?_); rintro e w8 ⟨hg8, rfl⟩))
                refine ⟨rfl, gb_trans hg7' hg8, ?_⟩
                rw [HE5.out]
              | ok lt4 =>
                obtain ⟨l, t4⟩ := lt4
                rw [h5] at KX HE5
                simp only [] at HE5
                clear h5
                have TY := Lib.hid (fun W h => titleX_c b s t4 W h (by omega))
                cases h6 : tiX t4 with
                | error e6 =>
                  rw [h6] at TY HE5
                  clear h6
                  go_enter Tryz.func36, Tryz.ntmps36
                  go_wp2_with (first | (go_at_call 60; (with_reducible refine (N0.out _ hR0).mono ?_); rintro e w1 ⟨rfl, hR1, hg1⟩) | (go_at_call 61; (with_reducible refine (TX.out _ hR1).mono ?_); rintro e w2 ⟨hg2, rfl, hR2⟩; have hR3 := (hR2.of_bl ((Bl.refl _).alloc _) : Xr (w2.alloc (.cells #[.string ⟨n.toArray⟩, .slice none 0 0, .string ⟨#[]⟩, .slice none 0 0] 25)) b s t1); have hg3 := gb_trans hg0 (gb_trans hg1 (gb_trans hg2 (gb_bl ((Bl.refl w2).alloc (.cells #[.string ⟨n.toArray⟩, .slice none 0 0, .string ⟨#[]⟩, .slice none 0 0] 25))))); have hN3 := nb_new w2 n; have hsz2 := lt_alloc (gb_trans hg1 hg2); have hqb : w2.heap.size ≠ b := (by omega); have hq45 : w.heap.size ≠ w2.heap.size := (by omega); have hZ3 := ((hZ0.of_gb hg1 hbs).of_gb hg2 hbs).of_bl ((Bl.refl w2).alloc (.cells #[.string ⟨n.toArray⟩, .slice none 0 0, .string ⟨#[]⟩, .slice none 0 0] 25)); have hs3 := alloc_size w2 (.cells #[.string ⟨n.toArray⟩, .slice none 0 0, .string ⟨#[]⟩, .slice none 0 0] 25)) | (go_at_call 62; (with_reducible refine (AX.out _ hR3 (hE.of_gb hg3 hbE) (hM.of_gb hg3 hbM)).mono ?_); rintro e w4 ⟨hg4, va, rfl, hO4, hR4⟩; obtain ⟨ao, co, rfl, hco⟩ := own_shp (show w4.ownsRow _ 39 2 va a.length (atC a) from hO4); have hN4 := hN3.of_gb hg4 (by simp; omega); have hZ4 := hZ3.of_gb hg4 hbs; obtain ⟨m0, m1, m2, m3, g0, g1, g2, g3⟩ := hN4.cells; have hR5 := hR4.far (o := 1) (u := .slice ao a.length co) (Ne.symm hqb); have hg5 := gb_setnew (gb_trans hg3 hg4) (Nat.le_of_lt hsz2) 1 (.slice ao a.length co)) | (go_at_call 63; (with_reducible refine (BS.out _ hR5).mono ?_); rintro e w6 ⟨rfl, hq6⟩; have hR6 := hR5.of_bl hq6.bl; have hN6 := (hN4.set1 (.slice ao a.length co)).of_bl hq6.bl; have hZ6 := (hZ4.far (o := 1) (u := .slice ao a.length co) hq45).of_bl hq6.bl; have hg6 := gb_trans hg5 (gb_qt hq6); have hA6 := still_at hO4 (w2 := w2) (w6 := w6) hq6 hs3; clear m0 m1 m2 m3 g0 g1 g2 g3; obtain ⟨m0, m1, m2, m3, g0, g1, g2, g3⟩ := hN6.cells; obtain ⟨z0, z1, z2, z3, y0, y1, y2, y3⟩ := hZ6.cells; obtain ⟨c0, c1, f0, f1⟩ := hR6.at_ HK.out) | (go_at_call 60; (with_reducible refine (N7.out _ hR6).mono ?_); rintro e w7 ⟨rfl, hR7, hg7⟩; have hN7 := hN6.of_gb hg7 (by simp; omega); have hZ7 := hZ6.of_gb hg7 hbs; have hg7' := gb_trans hg6 hg7; have hA7 := hA6.still (Still.of_gr hg7 (by rintro _ e; cases e; omega))) | (go_at_call 64; (with_reducible refine (KX.out _ hR7 (hE.of_gb hg7' hbE) (hM.of_gb hg7' hbM)).mono ?_); rintro e w8 ⟨hg8, vk, rfl, hR8, P2, hK8, hP2⟩; obtain ⟨ak, ck, rfl, -⟩ := id hK8; have hN8 := hN7.of_gb hg8 (by simp; omega); have hZ8 := hZ7.of_gb hg8 hbs; clear m0 m1 m2 m3 g0 g1 g2 g3 z0 z1 z2 z3 y0 y1 y2 y3 c0 c1 f0 f1; obtain ⟨m0, m1, m2, m3, g0, g1, g2, g3⟩ := hN8.cells; have hs7 := hg7'.size; have hs8 := hg8.size; have hlt7 := hN7.lt; have hR9 := hR8.far (o := 3) (u := .slice ak l.length ck) (Ne.symm hqb); have hN9 := hN8.set3 (.slice ak l.length ck); have hZ9 := hZ8.far (o := 3) (u := .slice ak l.length ck) hq45; have hg9 := gb_setnew (gb_trans hg7' hg8) (Nat.le_of_lt hsz2) 3 (.slice ak l.length ck)))
                  go_region_with (go_at_call 61; (with_reducible refine mono_ghost (.string ⟨n.toArray⟩) (TY.out _ (hR9.of_bl (Bl.refl _).drew)) ?_ ?_); (rintro e wa ⟨hga, rfl⟩; go_wp2; refine ⟨rfl, gb_trans hg9 (gb_trans (gb_bl (Bl.refl _).drew) hga), ?_⟩; rw [HE5.out]); rintro wa hf; obtain ⟨n0, n1, n2, n3, n4, n5, n6, n7⟩ := (hf.out.elim : Nb wa w2.heap.size n (.slice ao a.length co) [] (.slice ak l.length ck)).cells)
                  all_goals exact hf.out.elim
                | ok mt5 =>
                  obtain ⟨m, t5⟩ := mt5
                  rw [h6] at TY HE5
                  clear h6
                  by_cases h7 : m = n
                  · have HE6 := Lib.hid (show elF (k + 1) deep t = if pre [62] (wsX t5) = false then .error 1 else .ok (.mk n a [] l, (wsX t5).drop 1) by rw [HE5.out]; simp only [if_neg (fun h : m ≠ n => h h7)])
                    have h7' := h7.symm
                    subst h7'
                    clear HE5
                    have WC := Lib.hid (fun W h => whiteX_c b s t5 W h (by omega))
                    cases h8 : pre [62] (wsX t5) with
                    | false =>
                      have ER := Lib.hid (show elF (k + 1) deep t = .error 1 by rw [HE6.out, if_pos h8])
                      have N9 := Lib.hid (fun W h => needX_no [62] b s (wsX t5) W h (by omega) h8)
                      clear h8 HE6
                      go_enter Tryz.func36, Tryz.ntmps36
                      go_wp2_with (first | (go_at_call 60; (with_reducible refine (N0.out _ hR0).mono ?_); rintro e w1 ⟨rfl, hR1, hg1⟩) | (go_at_call 61; (with_reducible refine (TX.out _ hR1).mono ?_); rintro e w2 ⟨hg2, rfl, hR2⟩; have hR3 := (hR2.of_bl ((Bl.refl _).alloc _) : Xr (w2.alloc (.cells #[.string ⟨n.toArray⟩, .slice none 0 0, .string ⟨#[]⟩, .slice none 0 0] 25)) b s t1); have hg3 := gb_trans hg0 (gb_trans hg1 (gb_trans hg2 (gb_bl ((Bl.refl w2).alloc (.cells #[.string ⟨n.toArray⟩, .slice none 0 0, .string ⟨#[]⟩, .slice none 0 0] 25))))); have hN3 := nb_new w2 n; have hsz2 := lt_alloc (gb_trans hg1 hg2); have hqb : w2.heap.size ≠ b := (by omega); have hq45 : w.heap.size ≠ w2.heap.size := (by omega); have hZ3 := ((hZ0.of_gb hg1 hbs).of_gb hg2 hbs).of_bl ((Bl.refl w2).alloc (.cells #[.string ⟨n.toArray⟩, .slice none 0 0, .string ⟨#[]⟩, .slice none 0 0] 25)); have hs3 := alloc_size w2 (.cells #[.string ⟨n.toArray⟩, .slice none 0 0, .string ⟨#[]⟩, .slice none 0 0] 25)) | (go_at_call 62; (with_reducible refine (AX.out _ hR3 (hE.of_gb hg3 hbE) (hM.of_gb hg3 hbM)).mono ?_); rintro e w4 ⟨hg4, va, rfl, hO4, hR4⟩; obtain ⟨ao, co, rfl, hco⟩ := own_shp (show w4.ownsRow _ 39 2 va a.length (atC a) from hO4); have hN4 := hN3.of_gb hg4 (by simp; omega); have hZ4 := hZ3.of_gb hg4 hbs; obtain ⟨m0, m1, m2, m3, g0, g1, g2, g3⟩ := hN4.cells; have hR5 := hR4.far (o := 1) (u := .slice ao a.length co) (Ne.symm hqb); have hg5 := gb_setnew (gb_trans hg3 hg4) (Nat.le_of_lt hsz2) 1 (.slice ao a.length co)) | (go_at_call 63; (with_reducible refine (BS.out _ hR5).mono ?_); rintro e w6 ⟨rfl, hq6⟩; have hR6 := hR5.of_bl hq6.bl; have hN6 := (hN4.set1 (.slice ao a.length co)).of_bl hq6.bl; have hZ6 := (hZ4.far (o := 1) (u := .slice ao a.length co) hq45).of_bl hq6.bl; have hg6 := gb_trans hg5 (gb_qt hq6); have hA6 := still_at hO4 (w2 := w2) (w6 := w6) hq6 hs3; clear m0 m1 m2 m3 g0 g1 g2 g3; obtain ⟨m0, m1, m2, m3, g0, g1, g2, g3⟩ := hN6.cells; obtain ⟨z0, z1, z2, z3, y0, y1, y2, y3⟩ := hZ6.cells; obtain ⟨c0, c1, f0, f1⟩ := hR6.at_ HK.out) | (go_at_call 60; (with_reducible refine (N7.out _ hR6).mono ?_); rintro e w7 ⟨rfl, hR7, hg7⟩; have hN7 := hN6.of_gb hg7 (by simp; omega); have hZ7 := hZ6.of_gb hg7 hbs; have hg7' := gb_trans hg6 hg7; have hA7 := hA6.still (Still.of_gr hg7 (by rintro _ e; cases e; omega))) | (go_at_call 64; (with_reducible refine (KX.out _ hR7 (hE.of_gb hg7' hbE) (hM.of_gb hg7' hbM)).mono ?_); rintro e w8 ⟨hg8, vk, rfl, hR8, P2, hK8, hP2⟩; obtain ⟨ak, ck, rfl, -⟩ := id hK8; have hN8 := hN7.of_gb hg8 (by simp; omega); have hZ8 := hZ7.of_gb hg8 hbs; clear m0 m1 m2 m3 g0 g1 g2 g3 z0 z1 z2 z3 y0 y1 y2 y3 c0 c1 f0 f1; obtain ⟨m0, m1, m2, m3, g0, g1, g2, g3⟩ := hN8.cells; have hs7 := hg7'.size; have hs8 := hg8.size; have hlt7 := hN7.lt; have hR9 := hR8.far (o := 3) (u := .slice ak l.length ck) (Ne.symm hqb); have hN9 := hN8.set3 (.slice ak l.length ck); have hZ9 := hZ8.far (o := 3) (u := .slice ak l.length ck) hq45; have hg9 := gb_setnew (gb_trans hg7' hg8) (Nat.le_of_lt hsz2) 3 (.slice ak l.length ck)))
                      go_region_with (go_at_call 61; (with_reducible refine (TY.out _ (hR9.of_bl (Bl.refl _).drew)).mono ?_); rintro e wa ⟨hga, rfl, hRa⟩; obtain ⟨n0, n1, n2, n3, n4, n5, n6, n7⟩ := ((hN9.of_bl (Bl.refl _).drew).of_gb hga (by simp; omega)).cells)
                      all_goals
                        have hga' := gb_trans hg9 (gb_trans (gb_bl (Bl.refl _).drew) hga)
                        go_wp2_with (first | (go_at_call 58; (with_reducible refine (WC.out _ hRa).mono ?_); rintro e wb ⟨rfl, hRb, hgb⟩) | (go_at_call 60; (with_reducible refine (N9.out _ hRb).mono ?_); rintro e wd ⟨rfl, hqd⟩))
                        refine ⟨rfl, gb_trans hga' (gb_trans hgb (gb_qt hqd)), ?_⟩
                        rw [ER.out]
                    | true =>
                      have ER := Lib.hid (show elF (k + 1) deep t = .ok (.mk n a [] l, (wsX t5).drop 1) by rw [HE6.out, if_neg (by simp [h8])])
                      have N9 := Lib.hid (fun W h => needX_yes [62] b s (wsX t5) W h (by omega) h8)
                      simp only [List.length_singleton] at N9
                      clear h8 HE6
                      go_enter Tryz.func36, Tryz.ntmps36
                      go_wp2_with (first | (go_at_call 60; (with_reducible refine (N0.out _ hR0).mono ?_); rintro e w1 ⟨rfl, hR1, hg1⟩) | (go_at_call 61; (with_reducible refine (TX.out _ hR1).mono ?_); rintro e w2 ⟨hg2, rfl, hR2⟩; have hR3 := (hR2.of_bl ((Bl.refl _).alloc _) : Xr (w2.alloc (.cells #[.string ⟨n.toArray⟩, .slice none 0 0, .string ⟨#[]⟩, .slice none 0 0] 25)) b s t1); have hg3 := gb_trans hg0 (gb_trans hg1 (gb_trans hg2 (gb_bl ((Bl.refl w2).alloc (.cells #[.string ⟨n.toArray⟩, .slice none 0 0, .string ⟨#[]⟩, .slice none 0 0] 25))))); have hN3 := nb_new w2 n; have hsz2 := lt_alloc (gb_trans hg1 hg2); have hqb : w2.heap.size ≠ b := (by omega); have hq45 : w.heap.size ≠ w2.heap.size := (by omega); have hZ3 := ((hZ0.of_gb hg1 hbs).of_gb hg2 hbs).of_bl ((Bl.refl w2).alloc (.cells #[.string ⟨n.toArray⟩, .slice none 0 0, .string ⟨#[]⟩, .slice none 0 0] 25)); have hs3 := alloc_size w2 (.cells #[.string ⟨n.toArray⟩, .slice none 0 0, .string ⟨#[]⟩, .slice none 0 0] 25)) | (go_at_call 62; (with_reducible refine (AX.out _ hR3 (hE.of_gb hg3 hbE) (hM.of_gb hg3 hbM)).mono ?_); rintro e w4 ⟨hg4, va, rfl, hO4, hR4⟩; obtain ⟨ao, co, rfl, hco⟩ := own_shp (show w4.ownsRow _ 39 2 va a.length (atC a) from hO4); have hN4 := hN3.of_gb hg4 (by simp; omega); have hZ4 := hZ3.of_gb hg4 hbs; obtain ⟨m0, m1, m2, m3, g0, g1, g2, g3⟩ := hN4.cells; have hR5 := hR4.far (o := 1) (u := .slice ao a.length co) (Ne.symm hqb); have hg5 := gb_setnew (gb_trans hg3 hg4) (Nat.le_of_lt hsz2) 1 (.slice ao a.length co)) | (go_at_call 63; (with_reducible refine (BS.out _ hR5).mono ?_); rintro e w6 ⟨rfl, hq6⟩; have hR6 := hR5.of_bl hq6.bl; have hN6 := (hN4.set1 (.slice ao a.length co)).of_bl hq6.bl; have hZ6 := (hZ4.far (o := 1) (u := .slice ao a.length co) hq45).of_bl hq6.bl; have hg6 := gb_trans hg5 (gb_qt hq6); have hA6 := still_at hO4 (w2 := w2) (w6 := w6) hq6 hs3; clear m0 m1 m2 m3 g0 g1 g2 g3; obtain ⟨m0, m1, m2, m3, g0, g1, g2, g3⟩ := hN6.cells; obtain ⟨z0, z1, z2, z3, y0, y1, y2, y3⟩ := hZ6.cells; obtain ⟨c0, c1, f0, f1⟩ := hR6.at_ HK.out) | (go_at_call 60; (with_reducible refine (N7.out _ hR6).mono ?_); rintro e w7 ⟨rfl, hR7, hg7⟩; have hN7 := hN6.of_gb hg7 (by simp; omega); have hZ7 := hZ6.of_gb hg7 hbs; have hg7' := gb_trans hg6 hg7; have hA7 := hA6.still (Still.of_gr hg7 (by rintro _ e; cases e; omega))) | (go_at_call 64; (with_reducible refine (KX.out _ hR7 (hE.of_gb hg7' hbE) (hM.of_gb hg7' hbM)).mono ?_); rintro e w8 ⟨hg8, vk, rfl, hR8, P2, hK8, hP2⟩; obtain ⟨ak, ck, rfl, -⟩ := id hK8; have hN8 := hN7.of_gb hg8 (by simp; omega); have hZ8 := hZ7.of_gb hg8 hbs; clear m0 m1 m2 m3 g0 g1 g2 g3 z0 z1 z2 z3 y0 y1 y2 y3 c0 c1 f0 f1; obtain ⟨m0, m1, m2, m3, g0, g1, g2, g3⟩ := hN8.cells; have hs7 := hg7'.size; have hs8 := hg8.size; have hlt7 := hN7.lt; have hR9 := hR8.far (o := 3) (u := .slice ak l.length ck) (Ne.symm hqb); have hN9 := hN8.set3 (.slice ak l.length ck); have hZ9 := hZ8.far (o := 3) (u := .slice ak l.length ck) hq45; have hg9 := gb_setnew (gb_trans hg7' hg8) (Nat.le_of_lt hsz2) 3 (.slice ak l.length ck)))
                      go_region_with (go_at_call 61; (with_reducible refine (TY.out _ (hR9.of_bl (Bl.refl _).drew)).mono ?_); rintro e wa ⟨hga, rfl, hRa⟩; have hNa := (hN9.of_bl (Bl.refl _).drew).of_gb hga (by simp; omega); have hZa := (hZ9.of_bl (Bl.refl _).drew).of_gb hga hbs; obtain ⟨n0, n1, n2, n3, n4, n5, n6, n7⟩ := hNa.cells)
                      all_goals
                        have hga' := gb_trans hg9 (gb_trans (gb_bl (Bl.refl _).drew) hga)
                        clear m0 m1 m2 m3 g0 g1 g2 g3
                        go_wp2_with (first | (go_at_call 58; (with_reducible refine (WC.out _ hRa).mono ?_); rintro e wb ⟨rfl, hRb, hgb⟩) | (go_at_call 60; (with_reducible refine (N9.out _ hRb).mono ?_); rintro e wd ⟨rfl, hRd, hgd⟩; have hNd := (hNa.of_gb hgb (by simp; omega)).of_gb hgd (by simp; omega); have hZd := (hZa.of_gb hgb hbs).of_gb hgd hbs; clear n0 n1 n2 n3 n4 n5 n6 n7; obtain ⟨n0, n1, n2, n3, n4, n5, n6, n7⟩ := hNd.cells; obtain ⟨z0, z1, z2, z3, y0, y1, y2, y3⟩ := hZd.cells))
                        have hFz := (fin4_nb (n := n) (va := .slice ao a.length co) (x := []) (vk := .slice ak l.length ck) hZd).cells
                        unfold fin4 at hFz
                        obtain ⟨q0, q1, q2, q3, -⟩ := hFz
                        refine bodyPost_ret (v := .agg #[.string ⟨n.toArray⟩, .slice ao a.length co, .string ⟨([] : List UInt8).toArray⟩, .slice ak l.length ck]) (by simp [results, Tryz.results36, go_sem, q0, q1, q2, q3]) rfl ?_
                        have hgz := gb_trans hga' (gb_trans hgb hgd)
                        have hgz9 := gb_trans (gb_trans (gb_bl (Bl.refl _).drew) hga) (gb_trans hgb hgd)
                        refine ⟨fin4_gb (q := w.heap.size) hgz (Nat.le_refl _), ?_⟩
                        rw [ER.out]
                        have S8 : Still (fun k => w2.heap.size < k ∧ k < w7.heap.size) w7 (w8.setCell ⟨w2.heap.size, 3, none⟩ (.slice ak l.length ck)) := (Still.of_gr hg8 (by rintro _ e; cases e; omega)).trans (Still.set _ _ _ _ (by omega))
                        have S8b : Still P2 w8 (w8.setCell ⟨w2.heap.size, 3, none⟩ (.slice ak l.length ck)) := Still.set _ _ _ _ (fun h => by have := (hP2 _ h).1; omega)
                        have hs6 := hg7.size
                        have hsd := hgz9.size
                        simp only [World.size_setCell] at hsd
                        refine ⟨_, _, rfl, fin4_xr hRd hbq, fun k => (w2.heap.size < k ∧ k < w7.heap.size) ∨ P2 k, ((((hA7.mono (fun k hk => ⟨hk.1, by omega⟩)).still S8).still (Still.of_gr hgz9 (by rintro _ e; cases e; omega))).still (fin4_still (by omega))).mono (fun k hk => Or.inl hk), (((hK8.still S8b).still (Still.of_gr hgz9 (by rintro _ e hp; cases e; have := (hP2 _ hp).1; omega))).still (fin4_still (fun h => by have := (hP2 _ h).1; omega))).mono (fun k hk => Or.inr hk), fun k hk => ?_⟩
                        simp only [World.size_setCell]
                        rcases hk with hk | hk
                        · exact ⟨by omega, by omega⟩
                        · have := hP2 k hk; exact ⟨by omega, by omega⟩
                  · have ER := Lib.hid (show elF (k + 1) deep t = .error 4 from by rw [HE5.out]; simp only [if_pos (show m ≠ n from h7)])
                    have hmn : (m == n) = false := by simpa using h7
                    have hmn2 : (!m == n) = true := by simpa using h7
                    clear HE5
                    go_enter Tryz.func36, Tryz.ntmps36
                    go_wp2_with (first | (go_at_call 60; (with_reducible refine (N0.out _ hR0).mono ?_); rintro e w1 ⟨rfl, hR1, hg1⟩) | (go_at_call 61; (with_reducible refine (TX.out _ hR1).mono ?_); rintro e w2 ⟨hg2, rfl, hR2⟩; have hR3 := (hR2.of_bl ((Bl.refl _).alloc _) : Xr (w2.alloc (.cells #[.string ⟨n.toArray⟩, .slice none 0 0, .string ⟨#[]⟩, .slice none 0 0] 25)) b s t1); have hg3 := gb_trans hg0 (gb_trans hg1 (gb_trans hg2 (gb_bl ((Bl.refl w2).alloc (.cells #[.string ⟨n.toArray⟩, .slice none 0 0, .string ⟨#[]⟩, .slice none 0 0] 25))))); have hN3 := nb_new w2 n; have hsz2 := lt_alloc (gb_trans hg1 hg2); have hqb : w2.heap.size ≠ b := (by omega); have hq45 : w.heap.size ≠ w2.heap.size := (by omega); have hZ3 := ((hZ0.of_gb hg1 hbs).of_gb hg2 hbs).of_bl ((Bl.refl w2).alloc (.cells #[.string ⟨n.toArray⟩, .slice none 0 0, .string ⟨#[]⟩, .slice none 0 0] 25)); have hs3 := alloc_size w2 (.cells #[.string ⟨n.toArray⟩, .slice none 0 0, .string ⟨#[]⟩, .slice none 0 0] 25)) | (go_at_call 62; (with_reducible refine (AX.out _ hR3 (hE.of_gb hg3 hbE) (hM.of_gb hg3 hbM)).mono ?_); rintro e w4 ⟨hg4, va, rfl, hO4, hR4⟩; obtain ⟨ao, co, rfl, hco⟩ := own_shp (show w4.ownsRow _ 39 2 va a.length (atC a) from hO4); have hN4 := hN3.of_gb hg4 (by simp; omega); have hZ4 := hZ3.of_gb hg4 hbs; obtain ⟨m0, m1, m2, m3, g0, g1, g2, g3⟩ := hN4.cells; have hR5 := hR4.far (o := 1) (u := .slice ao a.length co) (Ne.symm hqb); have hg5 := gb_setnew (gb_trans hg3 hg4) (Nat.le_of_lt hsz2) 1 (.slice ao a.length co)) | (go_at_call 63; (with_reducible refine (BS.out _ hR5).mono ?_); rintro e w6 ⟨rfl, hq6⟩; have hR6 := hR5.of_bl hq6.bl; have hN6 := (hN4.set1 (.slice ao a.length co)).of_bl hq6.bl; have hZ6 := (hZ4.far (o := 1) (u := .slice ao a.length co) hq45).of_bl hq6.bl; have hg6 := gb_trans hg5 (gb_qt hq6); have hA6 := still_at hO4 (w2 := w2) (w6 := w6) hq6 hs3; clear m0 m1 m2 m3 g0 g1 g2 g3; obtain ⟨m0, m1, m2, m3, g0, g1, g2, g3⟩ := hN6.cells; obtain ⟨z0, z1, z2, z3, y0, y1, y2, y3⟩ := hZ6.cells; obtain ⟨c0, c1, f0, f1⟩ := hR6.at_ HK.out) | (go_at_call 60; (with_reducible refine (N7.out _ hR6).mono ?_); rintro e w7 ⟨rfl, hR7, hg7⟩; have hN7 := hN6.of_gb hg7 (by simp; omega); have hZ7 := hZ6.of_gb hg7 hbs; have hg7' := gb_trans hg6 hg7; have hA7 := hA6.still (Still.of_gr hg7 (by rintro _ e; cases e; omega))) | (go_at_call 64; (with_reducible refine (KX.out _ hR7 (hE.of_gb hg7' hbE) (hM.of_gb hg7' hbM)).mono ?_); rintro e w8 ⟨hg8, vk, rfl, hR8, P2, hK8, hP2⟩; obtain ⟨ak, ck, rfl, -⟩ := id hK8; have hN8 := hN7.of_gb hg8 (by simp; omega); have hZ8 := hZ7.of_gb hg8 hbs; clear m0 m1 m2 m3 g0 g1 g2 g3 z0 z1 z2 z3 y0 y1 y2 y3 c0 c1 f0 f1; obtain ⟨m0, m1, m2, m3, g0, g1, g2, g3⟩ := hN8.cells; have hs7 := hg7'.size; have hs8 := hg8.size; have hlt7 := hN7.lt; have hR9 := hR8.far (o := 3) (u := .slice ak l.length ck) (Ne.symm hqb); have hN9 := hN8.set3 (.slice ak l.length ck); have hZ9 := hZ8.far (o := 3) (u := .slice ak l.length ck) hq45; have hg9 := gb_setnew (gb_trans hg7' hg8) (Nat.le_of_lt hsz2) 3 (.slice ak l.length ck)))
                    go_region_with (go_at_call 61; (with_reducible refine (TY.out _ (hR9.of_bl (Bl.refl _).drew)).mono ?_); rintro e wa ⟨hga, rfl, hRa⟩; obtain ⟨n0, n1, n2, n3, n4, n5, n6, n7⟩ := ((hN9.of_bl (Bl.refl _).drew).of_gb hga (by simp; omega)).cells)
                    all_goals
                      have hga' := gb_trans hg9 (gb_trans (gb_bl (Bl.refl _).drew) hga)
                      go_wp2_with (go_at_call 37; (with_reducible refine (fail_c 4 _).mono ?_); rintro e w3 ⟨rfl, rfl⟩)
                      refine ⟨rfl, hga', ?_⟩
                      rw [ER.out]
end Go.Proofs.YtkacjnifhmgeiaaGreatDoor

/- Documents, the reference: a document is read (printed by gen_xof.py). -/
import Derived.Test.YtkacjnifhmgeiaaGreatDoorXmlRm
import Derived.Test.YtkacjnifhmgeiaaGreatDoorGrpO
namespace Go.Proofs.YtkacjnifhmgeiaaGreatDoor
open Go.RowKit

theorem miscR_err (b : Nat) (s t : List UInt8) (n : Int) (hn : (n == 0) = false) (w : World) (hR : Yr w b s t n) : Calls Tryz.prog 21 #[.pointer (some ⟨b, 0, none⟩)] w fun e w' => e = .returned (.tuple #[]) ∧ w = w' := by
  obtain ⟨c0, c1, c2, f0, f1, f2⟩ := hR.rk.cells
  have hn1 : ¬ n = 0 := by simpa using hn
  go_enter Tryz.func21, Tryz.ntmps21
  go_wp2
  refine wp_loop_rounds 1 ?_
  rw [rounds_succ]
  go_wp2
  go_end0
  exact ⟨rfl, rfl⟩
theorem miX_ne {t : List UInt8} {n : Int} (h : miX t = .error n) : n ≠ 0 := by
  have H : ∀ k u, miF k u = .error n → n ≠ 0 := by
    intro k
    induction k with
    | zero => intro u h; cases h
    | succ k ih =>
      intro u h
      unfold miF at h
      split at h
      · exact ih _ h
      · cases e : asX u with
        | error m => rw [e] at h; cases h; exact asX_err e
        | ok o =>
          rw [e] at h
          cases o with
          | none => cases h
          | some r => exact ih _ h
  exact H _ _ h
theorem miX_le {t r : List UInt8} (h : miX t = .ok r) : r.length ≤ t.length := by
  have H : ∀ k u, miF k u = .ok r → r.length ≤ u.length := by
    intro k
    induction k with
    | zero => intro u h; cases h; exact Nat.le_refl _
    | succ k ih =>
      intro u h
      unfold miF at h
      split at h
      · have := ih _ h; have := wsX_len u; omega
      · cases e : asX u with
        | error m => rw [e] at h; cases h
        | ok o =>
          rw [e] at h
          cases o with
          | none => cases h; exact Nat.le_refl _
          | some r' => have := ih _ h; have := asX_len e; omega
  exact H _ _ h
theorem of_bl4 {w wx : World} {n x : List UInt8} {va vk : Value} (hg : w.grownBy wx (some (w.heap.size + 1))) : Bl w ((((wx.setCell ⟨w.heap.size, 0, none⟩ (.string ⟨n.toArray⟩)).setCell ⟨w.heap.size, 1, none⟩ va).setCell ⟨w.heap.size, 2, none⟩ (.string ⟨x.toArray⟩)).setCell ⟨w.heap.size, 3, none⟩ vk) := by
  have h1 : Below w.heap.size w wx := below_gr hg (fun j e => by cases e; omega) (Nat.le_refl _)
  exact Below.setCell (Below.setCell (Below.setCell (Below.setCell h1 (Nat.le_refl _) _) (Nat.le_refl _) _) (Nat.le_refl _) _) (Nat.le_refl _) _
set_option maxRecDepth 100000 in
set_option maxHeartbeats 8000000 in
theorem xmlOf_misc (s : List UInt8) (w : World) (hs : s.length ≤ 1000000) (n : Int) (h1 : miX s = .error n) : Calls Tryz.prog 10 #[.string ⟨s.toArray⟩] w fun e w' => AllEnd w (XmP s) e w' := by
  have hR0 : Yr ((w.alloc (.cells #[.string ⟨#[]⟩, .slice none 0 0, .string ⟨#[]⟩, .slice none 0 0] 25)).alloc (.cells #[.string ⟨s.toArray⟩, .int .i64 0, .int .i64 0] 44)) (w.heap.size + 1) s s 0 := ⟨by have := heap_alloc_new (w.alloc (.cells #[.string ⟨#[]⟩, .slice none 0 0, .string ⟨#[]⟩, .slice none 0 0] 25)) (.cells #[.string ⟨s.toArray⟩, .int .i64 0, .int .i64 0] 44); rw [alloc_size] at this; unfold Yk; rw [this]; simp, List.suffix_refl _⟩
  have hZ0 : Nb ((w.alloc (.cells #[.string ⟨#[]⟩, .slice none 0 0, .string ⟨#[]⟩, .slice none 0 0] 25)).alloc (.cells #[.string ⟨s.toArray⟩, .int .i64 0, .int .i64 0] 44)) w.heap.size [] (.slice none 0 0) [] (.slice none 0 0) := (nb_new w []).of_bl ((Bl.refl _).alloc _)
  have hg0 : w.grownBy ((w.alloc (.cells #[.string ⟨#[]⟩, .slice none 0 0, .string ⟨#[]⟩, .slice none 0 0] 25)).alloc (.cells #[.string ⟨s.toArray⟩, .int .i64 0, .int .i64 0] 44)) (some (w.heap.size + 1)) := gb_bl (((Bl.refl _).alloc _).alloc _)
  have MC := Lib.hid (fun W h => miscR_c (w.heap.size + 1) s s W h (by omega))
  have hn := miX_ne h1
  have hn0 : (n == 0) = false := by simpa using hn
  have hn1 : (n != 0) = true := by simpa using hn
  have ER := Lib.hid (show XmP s = .error n by unfold XmP; rw [h1])
  rw [h1] at MC
  clear h1 hn
  go_enter Tryz.func10, Tryz.ntmps10
  go_wp2_with (first | (go_at_call 21; (with_reducible refine (MC.out _ hR0).mono ?_); rintro e w1 ⟨hg1, _, t9, rfl, rfl, hR1⟩; have hs1 := hg1.size; have hZ1 := hZ0.of_gb hg1 (by simp); have hQ2 := nb_new w1 []; have hZ2 := hZ1.of_bl ((Bl.refl w1).alloc (.cells #[.string ⟨#[]⟩, .slice none 0 0, .string ⟨#[]⟩, .slice none 0 0] 25)); have hR2 := hR1.of_bl ((Bl.refl w1).alloc (.cells #[.string ⟨#[]⟩, .slice none 0 0, .string ⟨#[]⟩, .slice none 0 0] 25)); have hg2 := gb_trans hg0 (gb_trans hg1 (gb_bl ((Bl.refl w1).alloc (.cells #[.string ⟨#[]⟩, .slice none 0 0, .string ⟨#[]⟩, .slice none 0 0] 25)))); have n1 : w.heap.size + 1 ≠ w1.heap.size := (by simp at hs1; omega); have n2 : w.heap.size ≠ w1.heap.size := (by simp at hs1; omega); have n3 : w.heap.size + 1 < w1.heap.size := (by simp at hs1; omega); obtain ⟨d0, d1, d2, d3, d4, d5⟩ := hR1.rk.cells; obtain ⟨s0, s1, s2, s3, t0, t1', t2', t3'⟩ := hZ1.cells; obtain ⟨c0, c1, c2, f0, f1, f2⟩ := hR2.rk.cells; obtain ⟨z0, z1, z2, z3, y0, y1, y2, y3⟩ := hZ2.cells; obtain ⟨m0, m1, m2, m3, g0, g1, g2, g3⟩ := hQ2.cells) | (go_at_call 21; (with_reducible refine (miscR_err _ s _ _ hn0 _ hR2).mono ?_); rintro e w9 ⟨rfl, rfl⟩))
  have hBL := below_gr (k := w.heap.size) hg2 (fun j e => by cases e; omega) (Nat.le_refl _)
  go_region
  all_goals
    obtain ⟨q0, q1, q2, q3, -⟩ := (fin4_nb (n := []) (va := .slice none 0 0) (x := []) (vk := .slice none 0 0) hZ2).cells
    unfold fin4 at q0 q1 q2 q3
    go_wp2
    refine bodyPost_ret (v := .tuple #[.agg #[.string ⟨#[]⟩, .slice none 0 0, .string ⟨#[]⟩, .slice none 0 0], .int .i64 n]) (by simp [results, Tryz.results10, go_sem, q0, q1, q2, q3]) rfl ?_
    refine ⟨by repeat (first | (with_reducible exact hBL) | refine Below.drew ?_ | refine Below.drewN ?_ _ | refine Below.setCell ?_ (by first | exact Nat.le_refl _ | omega) _), ?_⟩
    rw [ER.out]
set_option maxRecDepth 100000 in
set_option maxHeartbeats 8000000 in
theorem xmlOf_el (s : List UInt8) (w : World) (hs : s.length ≤ 1000000) (t : List UInt8) (h1 : miX s = .ok t) (n : Int) (h2 : elF (2 * t.length + 2) 1 t = .error n) : Calls Tryz.prog 10 #[.string ⟨s.toArray⟩] w fun e w' => AllEnd w (XmP s) e w' := by
  have hR0 : Yr ((w.alloc (.cells #[.string ⟨#[]⟩, .slice none 0 0, .string ⟨#[]⟩, .slice none 0 0] 25)).alloc (.cells #[.string ⟨s.toArray⟩, .int .i64 0, .int .i64 0] 44)) (w.heap.size + 1) s s 0 := ⟨by have := heap_alloc_new (w.alloc (.cells #[.string ⟨#[]⟩, .slice none 0 0, .string ⟨#[]⟩, .slice none 0 0] 25)) (.cells #[.string ⟨s.toArray⟩, .int .i64 0, .int .i64 0] 44); rw [alloc_size] at this; unfold Yk; rw [this]; simp, List.suffix_refl _⟩
  have hZ0 : Nb ((w.alloc (.cells #[.string ⟨#[]⟩, .slice none 0 0, .string ⟨#[]⟩, .slice none 0 0] 25)).alloc (.cells #[.string ⟨s.toArray⟩, .int .i64 0, .int .i64 0] 44)) w.heap.size [] (.slice none 0 0) [] (.slice none 0 0) := (nb_new w []).of_bl ((Bl.refl _).alloc _)
  have hg0 : w.grownBy ((w.alloc (.cells #[.string ⟨#[]⟩, .slice none 0 0, .string ⟨#[]⟩, .slice none 0 0] 25)).alloc (.cells #[.string ⟨s.toArray⟩, .int .i64 0, .int .i64 0] 44)) (some (w.heap.size + 1)) := gb_bl (((Bl.refl _).alloc _).alloc _)
  have MC := Lib.hid (fun W h => miscR_c (w.heap.size + 1) s s W h (by omega))
  rw [h1] at MC
  have EC := Lib.hid (fun W h => (show Calls Tryz.prog 22 #[.pointer (some ⟨w.heap.size + 1, 0, none⟩), .int .i64 1] W (EyEnd W (w.heap.size + 1) s (elF (2 * t.length + 2) 1 t)) from elementR_c (w.heap.size + 1) s hs (2 * t.length + 2) 1 t W (by omega) (by omega) h))
  rw [h2] at EC
  have ER := Lib.hid (show XmP s = .error n by unfold XmP; rw [h1]; simp only []; rw [h2])
  clear h1 h2
  go_enter Tryz.func10, Tryz.ntmps10
  go_upto_region 6 with (first | (go_at_call 21; (with_reducible refine (MC.out _ hR0).mono ?_); rintro e w1 ⟨hg1, rfl, hR1⟩; have hs1 := hg1.size; have hZ1 := hZ0.of_gb hg1 (by simp); have hQ2 := nb_new w1 []; have hZ2 := hZ1.of_bl ((Bl.refl w1).alloc (.cells #[.string ⟨#[]⟩, .slice none 0 0, .string ⟨#[]⟩, .slice none 0 0] 25)); have hR2 := hR1.of_bl ((Bl.refl w1).alloc (.cells #[.string ⟨#[]⟩, .slice none 0 0, .string ⟨#[]⟩, .slice none 0 0] 25)); have hg2 := gb_trans hg0 (gb_trans hg1 (gb_bl ((Bl.refl w1).alloc (.cells #[.string ⟨#[]⟩, .slice none 0 0, .string ⟨#[]⟩, .slice none 0 0] 25)))); have n1 : w.heap.size + 1 ≠ w1.heap.size := (by simp at hs1; omega); have n2 : w.heap.size ≠ w1.heap.size := (by simp at hs1; omega); have n3 : w.heap.size + 1 < w1.heap.size := (by simp at hs1; omega); obtain ⟨d0, d1, d2, d3, d4, d5⟩ := hR1.rk.cells; obtain ⟨s0, s1, s2, s3, t0, t1', t2', t3'⟩ := hZ1.cells; obtain ⟨c0, c1, c2, f0, f1, f2⟩ := hR2.rk.cells; obtain ⟨z0, z1, z2, z3, y0, y1, y2, y3⟩ := hZ2.cells; obtain ⟨m0, m1, m2, m3, g0, g1, g2, g3⟩ := hQ2.cells) | (go_at_call 22; (refine (EC.out _ hR2).mono ?_); rintro e w3 ⟨hg3, hne, _, t9, rfl, ⟨n9, sx1, sx2, sl1, sc1, sl2, sc2, rfl⟩, hR3⟩; have hs3 := hg3.size; have hQ3 := hQ2.of_gb hg3 (by simp; omega); have hZ3 := hZ2.of_gb hg3 (by simp); have hQ4 := fin4_nb (n := n9) (va := .slice sx1 sl1 sc1) (x := []) (vk := .slice sx2 sl2 sc2) hQ3; have hZ4 : Nb (fin4 w3 w1.heap.size (.string ⟨n9.toArray⟩) (.slice sx1 sl1 sc1) (.string ⟨([] : List UInt8).toArray⟩) (.slice sx2 sl2 sc2)) w.heap.size [] (.slice none 0 0) [] (.slice none 0 0) := (((hZ3.far n2).far n2).far n2).far n2; have hR4 := fin4_yr (q := w1.heap.size) (v0 := (.string ⟨n9.toArray⟩)) (v1 := (.slice sx1 sl1 sc1)) (v2 := (.string ⟨([] : List UInt8).toArray⟩)) (v3 := (.slice sx2 sl2 sc2)) hR3 n1; have hg4 := fin4_gb (q := w1.heap.size) (v0 := (.string ⟨n9.toArray⟩)) (v1 := (.slice sx1 sl1 sc1)) (v2 := (.string ⟨([] : List UInt8).toArray⟩)) (v3 := (.slice sx2 sl2 sc2)) (gb_trans hg2 hg3) (by omega); unfold fin4 at hZ4 hR4 hg4 hQ4; clear c0 c1 c2 f0 f1 f2 z0 z1 z2 z3 y0 y1 y2 y3 m0 m1 m2 m3 g0 g1 g2 g3; obtain ⟨c0, c1, c2, f0, f1, f2⟩ := hR3.rk.cells; obtain ⟨z0, z1, z2, z3, y0, y1, y2, y3⟩ := hZ3.cells; obtain ⟨m0, m1, m2, m3, g0, g1, g2, g3⟩ := hQ3.cells; obtain ⟨i0, i1, i2, i3, j0, j1, j2, j3⟩ := hZ4.cells; obtain ⟨k0, k1, k2, l0, l1, l2⟩ := hR4.rk.cells; obtain ⟨o0, o1, o2, o3, -⟩ := hQ4.cells; have hn0 : (n == 0) = false := (by simpa using hne); have hn1 : (n != 0) = true := (by simpa using hne)))
  clear i0 i1 i2 i3 j0 j1 j2 j3 k0 k1 k2 l0 l1 l2 o0 o1 o2 o3 c0 c1 c2 f0 f1 f2 z0 z1 z2 z3 y0 y1 y2 y3 m0 m1 m2 m3 g0 g1 g2 g3 d0 d1 d2 d3 d4 d5 s0 s1 s2 s3 t0 t1' t2' t3'
  obtain ⟨W4, hw4⟩ : ∃ W4, W4 = ((((w3.setCell ⟨w1.heap.size, 0, none⟩ (.string ⟨n9.toArray⟩)).setCell ⟨w1.heap.size, 1, none⟩ (.slice sx1 sl1 sc1)).setCell ⟨w1.heap.size, 2, none⟩ (.string ⟨#[]⟩)).setCell ⟨w1.heap.size, 3, none⟩ (.slice sx2 sl2 sc2)) := ⟨_, rfl⟩
  rw [← hw4] at hZ4 hR4 hg4 hQ4
  rw [← hw4]
  clear hw4
  obtain ⟨i0, i1, i2, i3, j0, j1, j2, j3⟩ := hZ4.cells
  obtain ⟨k0, k1, k2, l0, l1, l2⟩ := hR4.rk.cells
  obtain ⟨o0, o1, o2, o3, -⟩ := hQ4.cells
  go_wp2_with (first | (go_at_call 21; (with_reducible refine (miscR_err _ s _ _ hn0 _ hR4).mono ?_); rintro e w9 ⟨rfl, rfl⟩))
  have hBL := below_gr (k := w.heap.size) hg4 (fun j e => by cases e; omega) (Nat.le_refl _)
  go_region
  all_goals
    obtain ⟨q0, q1, q2, q3, -⟩ := (fin4_nb (n := []) (va := .slice none 0 0) (x := []) (vk := .slice none 0 0) hZ4).cells
    unfold fin4 at q0 q1 q2 q3
    go_wp2
    refine bodyPost_ret (v := .tuple #[.agg #[.string ⟨#[]⟩, .slice none 0 0, .string ⟨#[]⟩, .slice none 0 0], .int .i64 n]) (by simp [results, Tryz.results10, go_sem, q0, q1, q2, q3]) rfl ?_
    refine ⟨by repeat (first | (with_reducible exact hBL) | refine Below.drew ?_ | refine Below.drewN ?_ _ | refine Below.setCell ?_ (by first | exact Nat.le_refl _ | omega) _), ?_⟩
    rw [ER.out]
set_option maxRecDepth 100000 in
set_option maxHeartbeats 8000000 in
theorem xmlOf_misc2 (s : List UInt8) (w : World) (hs : s.length ≤ 1000000) (t : List UInt8) (h1 : miX s = .ok t) (d : Nd) (t1 : List UInt8) (h2 : elF (2 * t.length + 2) 1 t = .ok (d, t1)) (n : Int) (h3 : miX t1 = .error n) : Calls Tryz.prog 10 #[.string ⟨s.toArray⟩] w fun e w' => AllEnd w (XmP s) e w' := by
  have hR0 : Yr ((w.alloc (.cells #[.string ⟨#[]⟩, .slice none 0 0, .string ⟨#[]⟩, .slice none 0 0] 25)).alloc (.cells #[.string ⟨s.toArray⟩, .int .i64 0, .int .i64 0] 44)) (w.heap.size + 1) s s 0 := ⟨by have := heap_alloc_new (w.alloc (.cells #[.string ⟨#[]⟩, .slice none 0 0, .string ⟨#[]⟩, .slice none 0 0] 25)) (.cells #[.string ⟨s.toArray⟩, .int .i64 0, .int .i64 0] 44); rw [alloc_size] at this; unfold Yk; rw [this]; simp, List.suffix_refl _⟩
  have hZ0 : Nb ((w.alloc (.cells #[.string ⟨#[]⟩, .slice none 0 0, .string ⟨#[]⟩, .slice none 0 0] 25)).alloc (.cells #[.string ⟨s.toArray⟩, .int .i64 0, .int .i64 0] 44)) w.heap.size [] (.slice none 0 0) [] (.slice none 0 0) := (nb_new w []).of_bl ((Bl.refl _).alloc _)
  have hg0 : w.grownBy ((w.alloc (.cells #[.string ⟨#[]⟩, .slice none 0 0, .string ⟨#[]⟩, .slice none 0 0] 25)).alloc (.cells #[.string ⟨s.toArray⟩, .int .i64 0, .int .i64 0] 44)) (some (w.heap.size + 1)) := gb_bl (((Bl.refl _).alloc _).alloc _)
  have MC := Lib.hid (fun W h => miscR_c (w.heap.size + 1) s s W h (by omega))
  rw [h1] at MC
  have EC := Lib.hid (fun W h => (show Calls Tryz.prog 22 #[.pointer (some ⟨w.heap.size + 1, 0, none⟩), .int .i64 1] W (EyEnd W (w.heap.size + 1) s (elF (2 * t.length + 2) 1 t)) from elementR_c (w.heap.size + 1) s hs (2 * t.length + 2) 1 t W (by omega) (by omega) h))
  rw [h2] at EC
  have MD := Lib.hid (fun W h => miscR_c (w.heap.size + 1) s t1 W h (by omega))
  rw [h3] at MD
  have hn := miX_ne h3
  have hn0 : (n == 0) = false := by simpa using hn
  have hn1 : (n != 0) = true := by simpa using hn
  have ER := Lib.hid (show XmP s = .error n by unfold XmP; rw [h1]; simp only []; rw [h2]; simp only []; rw [h3])
  clear h1 h2 h3 hn
  go_enter Tryz.func10, Tryz.ntmps10
  go_wp2_with (first | (go_at_call 21; (with_reducible refine (MC.out _ hR0).mono ?_); rintro e w1 ⟨hg1, rfl, hR1⟩; have hs1 := hg1.size; have hZ1 := hZ0.of_gb hg1 (by simp); have hQ2 := nb_new w1 []; have hZ2 := hZ1.of_bl ((Bl.refl w1).alloc (.cells #[.string ⟨#[]⟩, .slice none 0 0, .string ⟨#[]⟩, .slice none 0 0] 25)); have hR2 := hR1.of_bl ((Bl.refl w1).alloc (.cells #[.string ⟨#[]⟩, .slice none 0 0, .string ⟨#[]⟩, .slice none 0 0] 25)); have hg2 := gb_trans hg0 (gb_trans hg1 (gb_bl ((Bl.refl w1).alloc (.cells #[.string ⟨#[]⟩, .slice none 0 0, .string ⟨#[]⟩, .slice none 0 0] 25)))); have n1 : w.heap.size + 1 ≠ w1.heap.size := (by simp at hs1; omega); have n2 : w.heap.size ≠ w1.heap.size := (by simp at hs1; omega); have n3 : w.heap.size + 1 < w1.heap.size := (by simp at hs1; omega); obtain ⟨d0, d1, d2, d3, d4, d5⟩ := hR1.rk.cells; obtain ⟨s0, s1, s2, s3, t0, t1', t2', t3'⟩ := hZ1.cells; obtain ⟨c0, c1, c2, f0, f1, f2⟩ := hR2.rk.cells; obtain ⟨z0, z1, z2, z3, y0, y1, y2, y3⟩ := hZ2.cells; obtain ⟨m0, m1, m2, m3, g0, g1, g2, g3⟩ := hQ2.cells) | (go_at_call 22; (refine (EC.out _ hR2).mono ?_); rintro e w3 ⟨hg3, va, vk, rfl, hR3, P3, hA3, hK3, hP3⟩; have hs3 := hg3.size; have hQ3 := hQ2.of_gb hg3 (by simp; omega); have hZ3 := hZ2.of_gb hg3 (by simp); obtain ⟨sx1, sc1, rfl, -⟩ := id hA3; obtain ⟨sx2, sc2, rfl, -⟩ := id hK3; have hQ4 := fin4_nb (n := d.n) (va := .slice sx1 d.a.length sc1) (x := d.x) (vk := .slice sx2 d.k.length sc2) hQ3; have hZ4 : Nb (fin4 w3 w1.heap.size (.string ⟨d.n.toArray⟩) (.slice sx1 d.a.length sc1) (.string ⟨d.x.toArray⟩) (.slice sx2 d.k.length sc2)) w.heap.size [] (.slice none 0 0) [] (.slice none 0 0) := (((hZ3.far n2).far n2).far n2).far n2; have hR4 := fin4_yr (q := w1.heap.size) (v0 := (.string ⟨d.n.toArray⟩)) (v1 := (.slice sx1 d.a.length sc1)) (v2 := (.string ⟨d.x.toArray⟩)) (v3 := (.slice sx2 d.k.length sc2)) hR3 n1; have hg4 := fin4_gb (q := w1.heap.size) (v0 := (.string ⟨d.n.toArray⟩)) (v1 := (.slice sx1 d.a.length sc1)) (v2 := (.string ⟨d.x.toArray⟩)) (v3 := (.slice sx2 d.k.length sc2)) (gb_trans hg2 hg3) (by omega); unfold fin4 at hZ4 hR4 hg4 hQ4; clear c0 c1 c2 f0 f1 f2 z0 z1 z2 z3 y0 y1 y2 y3 m0 m1 m2 m3 g0 g1 g2 g3; obtain ⟨c0, c1, c2, f0, f1, f2⟩ := hR3.rk.cells; obtain ⟨z0, z1, z2, z3, y0, y1, y2, y3⟩ := hZ3.cells; obtain ⟨m0, m1, m2, m3, g0, g1, g2, g3⟩ := hQ3.cells; obtain ⟨i0, i1, i2, i3, j0, j1, j2, j3⟩ := hZ4.cells; obtain ⟨k0, k1, k2, l0, l1, l2⟩ := hR4.rk.cells; obtain ⟨o0, o1, o2, o3, -⟩ := hQ4.cells) | (go_at_call 21; (with_reducible refine (MD.out _ hR4).mono ?_); rintro e w5 ⟨hg5, _, t9, rfl, rfl, hR5⟩; have hs5 := hg5.size; have hZ5 := hZ4.of_gb hg5 (by simp); have hQ5 := hQ4.of_gb hg5 (by simp; omega); have hg6 := gb_trans hg4 hg5; clear i0 i1 i2 i3 j0 j1 j2 j3 k0 k1 k2 l0 l1 l2 o0 o1 o2 o3; obtain ⟨i0, i1, i2, i3, j0, j1, j2, j3⟩ := hZ5.cells; obtain ⟨k0, k1, k2, l0, l1, l2⟩ := hR5.rk.cells; obtain ⟨o0, o1, o2, o3, -⟩ := hQ5.cells))
  have hBL := below_gr (k := w.heap.size) hg6 (fun j e => by cases e; omega) (Nat.le_refl _)
  go_region
  all_goals
    obtain ⟨q0, q1, q2, q3, -⟩ := (fin4_nb (n := []) (va := .slice none 0 0) (x := []) (vk := .slice none 0 0) hZ5).cells
    unfold fin4 at q0 q1 q2 q3
    go_wp2
    refine bodyPost_ret (v := .tuple #[.agg #[.string ⟨#[]⟩, .slice none 0 0, .string ⟨#[]⟩, .slice none 0 0], .int .i64 n]) (by simp [results, Tryz.results10, go_sem, q0, q1, q2, q3]) rfl ?_
    refine ⟨by repeat (first | (with_reducible exact hBL) | refine Below.drew ?_ | refine Below.drewN ?_ _ | refine Below.setCell ?_ (by first | exact Nat.le_refl _ | omega) _), ?_⟩
    rw [ER.out]
set_option maxRecDepth 100000 in
set_option maxHeartbeats 8000000 in
theorem xmlOf_rest (s : List UInt8) (w : World) (hs : s.length ≤ 1000000) (t : List UInt8) (h1 : miX s = .ok t) (d : Nd) (t1 : List UInt8) (h2 : elF (2 * t.length + 2) 1 t = .ok (d, t1)) (t2 : List UInt8) (h3 : miX t1 = .ok t2) (h4 : t2 ≠ []) (h5 : t2.length ≤ s.length) : Calls Tryz.prog 10 #[.string ⟨s.toArray⟩] w fun e w' => AllEnd w (XmP s) e w' := by
  have hR0 : Yr ((w.alloc (.cells #[.string ⟨#[]⟩, .slice none 0 0, .string ⟨#[]⟩, .slice none 0 0] 25)).alloc (.cells #[.string ⟨s.toArray⟩, .int .i64 0, .int .i64 0] 44)) (w.heap.size + 1) s s 0 := ⟨by have := heap_alloc_new (w.alloc (.cells #[.string ⟨#[]⟩, .slice none 0 0, .string ⟨#[]⟩, .slice none 0 0] 25)) (.cells #[.string ⟨s.toArray⟩, .int .i64 0, .int .i64 0] 44); rw [alloc_size] at this; unfold Yk; rw [this]; simp, List.suffix_refl _⟩
  have hZ0 : Nb ((w.alloc (.cells #[.string ⟨#[]⟩, .slice none 0 0, .string ⟨#[]⟩, .slice none 0 0] 25)).alloc (.cells #[.string ⟨s.toArray⟩, .int .i64 0, .int .i64 0] 44)) w.heap.size [] (.slice none 0 0) [] (.slice none 0 0) := (nb_new w []).of_bl ((Bl.refl _).alloc _)
  have hg0 : w.grownBy ((w.alloc (.cells #[.string ⟨#[]⟩, .slice none 0 0, .string ⟨#[]⟩, .slice none 0 0] 25)).alloc (.cells #[.string ⟨s.toArray⟩, .int .i64 0, .int .i64 0] 44)) (some (w.heap.size + 1)) := gb_bl (((Bl.refl _).alloc _).alloc _)
  have MC := Lib.hid (fun W h => miscR_c (w.heap.size + 1) s s W h (by omega))
  rw [h1] at MC
  have EC := Lib.hid (fun W h => (show Calls Tryz.prog 22 #[.pointer (some ⟨w.heap.size + 1, 0, none⟩), .int .i64 1] W (EyEnd W (w.heap.size + 1) s (elF (2 * t.length + 2) 1 t)) from elementR_c (w.heap.size + 1) s hs (2 * t.length + 2) 1 t W (by omega) (by omega) h))
  rw [h2] at EC
  have MD := Lib.hid (fun W h => miscR_c (w.heap.size + 1) s t1 W h (by omega))
  rw [h3] at MD
  have ER := Lib.hid (show XmP s = .error 1 by unfold XmP; rw [h1]; simp only []; rw [h2]; simp only []; rw [h3]; simp only [if_neg h4])
  obtain ⟨K, hK⟩ : ∃ K, K = s.length - t2.length := ⟨_, rfl⟩
  have hK1 : (K : Int) < (s.length : Int) := by have := List.length_pos_iff.2 h4; omega
  have HK := Lib.hid hK
  clear h1 h2 h3 h4 hK
  go_enter Tryz.func10, Tryz.ntmps10
  go_wp2_with (first | (go_at_call 21; (with_reducible refine (MC.out _ hR0).mono ?_); rintro e w1 ⟨hg1, rfl, hR1⟩; have hs1 := hg1.size; have hZ1 := hZ0.of_gb hg1 (by simp); have hQ2 := nb_new w1 []; have hZ2 := hZ1.of_bl ((Bl.refl w1).alloc (.cells #[.string ⟨#[]⟩, .slice none 0 0, .string ⟨#[]⟩, .slice none 0 0] 25)); have hR2 := hR1.of_bl ((Bl.refl w1).alloc (.cells #[.string ⟨#[]⟩, .slice none 0 0, .string ⟨#[]⟩, .slice none 0 0] 25)); have hg2 := gb_trans hg0 (gb_trans hg1 (gb_bl ((Bl.refl w1).alloc (.cells #[.string ⟨#[]⟩, .slice none 0 0, .string ⟨#[]⟩, .slice none 0 0] 25)))); have n1 : w.heap.size + 1 ≠ w1.heap.size := (by simp at hs1; omega); have n2 : w.heap.size ≠ w1.heap.size := (by simp at hs1; omega); have n3 : w.heap.size + 1 < w1.heap.size := (by simp at hs1; omega); obtain ⟨d0, d1, d2, d3, d4, d5⟩ := hR1.rk.cells; obtain ⟨s0, s1, s2, s3, t0, t1', t2', t3'⟩ := hZ1.cells; obtain ⟨c0, c1, c2, f0, f1, f2⟩ := hR2.rk.cells; obtain ⟨z0, z1, z2, z3, y0, y1, y2, y3⟩ := hZ2.cells; obtain ⟨m0, m1, m2, m3, g0, g1, g2, g3⟩ := hQ2.cells) | (go_at_call 22; (refine (EC.out _ hR2).mono ?_); rintro e w3 ⟨hg3, va, vk, rfl, hR3, P3, hA3, hK3, hP3⟩; have hs3 := hg3.size; have hQ3 := hQ2.of_gb hg3 (by simp; omega); have hZ3 := hZ2.of_gb hg3 (by simp); obtain ⟨sx1, sc1, rfl, -⟩ := id hA3; obtain ⟨sx2, sc2, rfl, -⟩ := id hK3; have hQ4 := fin4_nb (n := d.n) (va := .slice sx1 d.a.length sc1) (x := d.x) (vk := .slice sx2 d.k.length sc2) hQ3; have hZ4 : Nb (fin4 w3 w1.heap.size (.string ⟨d.n.toArray⟩) (.slice sx1 d.a.length sc1) (.string ⟨d.x.toArray⟩) (.slice sx2 d.k.length sc2)) w.heap.size [] (.slice none 0 0) [] (.slice none 0 0) := (((hZ3.far n2).far n2).far n2).far n2; have hR4 := fin4_yr (q := w1.heap.size) (v0 := (.string ⟨d.n.toArray⟩)) (v1 := (.slice sx1 d.a.length sc1)) (v2 := (.string ⟨d.x.toArray⟩)) (v3 := (.slice sx2 d.k.length sc2)) hR3 n1; have hg4 := fin4_gb (q := w1.heap.size) (v0 := (.string ⟨d.n.toArray⟩)) (v1 := (.slice sx1 d.a.length sc1)) (v2 := (.string ⟨d.x.toArray⟩)) (v3 := (.slice sx2 d.k.length sc2)) (gb_trans hg2 hg3) (by omega); unfold fin4 at hZ4 hR4 hg4 hQ4; clear c0 c1 c2 f0 f1 f2 z0 z1 z2 z3 y0 y1 y2 y3 m0 m1 m2 m3 g0 g1 g2 g3; obtain ⟨c0, c1, c2, f0, f1, f2⟩ := hR3.rk.cells; obtain ⟨z0, z1, z2, z3, y0, y1, y2, y3⟩ := hZ3.cells; obtain ⟨m0, m1, m2, m3, g0, g1, g2, g3⟩ := hQ3.cells; obtain ⟨i0, i1, i2, i3, j0, j1, j2, j3⟩ := hZ4.cells; obtain ⟨k0, k1, k2, l0, l1, l2⟩ := hR4.rk.cells; obtain ⟨o0, o1, o2, o3, -⟩ := hQ4.cells) | (go_at_call 21; (with_reducible refine (MD.out _ hR4).mono ?_); rintro e w5 ⟨hg5, rfl, hR5⟩; have hs5 := hg5.size; have hZ5 := hZ4.of_gb hg5 (by simp); have hQ5 := hQ4.of_gb hg5 (by simp; omega); have hg6 := gb_trans hg4 hg5; clear i0 i1 i2 i3 j0 j1 j2 j3 k0 k1 k2 l0 l1 l2 o0 o1 o2 o3; obtain ⟨i0, i1, i2, i3, j0, j1, j2, j3⟩ := hZ5.cells; obtain ⟨k0, k1, k2, l0, l1, l2⟩ := hR5.at_ HK.out; obtain ⟨o0, o1, o2, o3, -⟩ := hQ5.cells) | (go_at_call 23; (with_reducible refine (failR_c 1 (by decide) _ s t2 _ hR5).mono ?_); rintro e w7 ⟨rfl, hR7, hg7⟩; have hZ7 := hZ5.of_gb hg7 (by simp); have hg8 := gb_trans hg6 hg7; obtain ⟨r0, r1, r2, r3, r4, r5⟩ := hR7.rk.cells; obtain ⟨s4, s5, s6, s7, t4', t5', t6', t7'⟩ := hZ7.cells))
  have hBL := below_gr (k := w.heap.size) hg8 (fun j e => by cases e; omega) (Nat.le_refl _)
  go_region
  all_goals
    obtain ⟨q0, q1, q2, q3, -⟩ := (fin4_nb (n := []) (va := .slice none 0 0) (x := []) (vk := .slice none 0 0) hZ7).cells
    unfold fin4 at q0 q1 q2 q3
    go_wp2
    refine bodyPost_ret (v := .tuple #[.agg #[.string ⟨#[]⟩, .slice none 0 0, .string ⟨#[]⟩, .slice none 0 0], .int .i64 1]) (by simp [results, Tryz.results10, go_sem, q0, q1, q2, q3]) rfl ?_
    refine ⟨by repeat (first | (with_reducible exact hBL) | refine Below.drew ?_ | refine Below.drewN ?_ _ | refine Below.setCell ?_ (by first | exact Nat.le_refl _ | omega) _), ?_⟩
    rw [ER.out]
set_option maxRecDepth 100000 in
set_option maxHeartbeats 8000000 in
theorem xmlOf_ok (s : List UInt8) (w : World) (hs : s.length ≤ 1000000) (t : List UInt8) (h1 : miX s = .ok t) (d : Nd) (t1 : List UInt8) (h2 : elF (2 * t.length + 2) 1 t = .ok (d, t1)) (h3 : miX t1 = .ok []) : Calls Tryz.prog 10 #[.string ⟨s.toArray⟩] w fun e w' => AllEnd w (XmP s) e w' := by
  have hR0 : Yr ((w.alloc (.cells #[.string ⟨#[]⟩, .slice none 0 0, .string ⟨#[]⟩, .slice none 0 0] 25)).alloc (.cells #[.string ⟨s.toArray⟩, .int .i64 0, .int .i64 0] 44)) (w.heap.size + 1) s s 0 := ⟨by have := heap_alloc_new (w.alloc (.cells #[.string ⟨#[]⟩, .slice none 0 0, .string ⟨#[]⟩, .slice none 0 0] 25)) (.cells #[.string ⟨s.toArray⟩, .int .i64 0, .int .i64 0] 44); rw [alloc_size] at this; unfold Yk; rw [this]; simp, List.suffix_refl _⟩
  have hZ0 : Nb ((w.alloc (.cells #[.string ⟨#[]⟩, .slice none 0 0, .string ⟨#[]⟩, .slice none 0 0] 25)).alloc (.cells #[.string ⟨s.toArray⟩, .int .i64 0, .int .i64 0] 44)) w.heap.size [] (.slice none 0 0) [] (.slice none 0 0) := (nb_new w []).of_bl ((Bl.refl _).alloc _)
  have hg0 : w.grownBy ((w.alloc (.cells #[.string ⟨#[]⟩, .slice none 0 0, .string ⟨#[]⟩, .slice none 0 0] 25)).alloc (.cells #[.string ⟨s.toArray⟩, .int .i64 0, .int .i64 0] 44)) (some (w.heap.size + 1)) := gb_bl (((Bl.refl _).alloc _).alloc _)
  have MC := Lib.hid (fun W h => miscR_c (w.heap.size + 1) s s W h (by omega))
  rw [h1] at MC
  have EC := Lib.hid (fun W h => (show Calls Tryz.prog 22 #[.pointer (some ⟨w.heap.size + 1, 0, none⟩), .int .i64 1] W (EyEnd W (w.heap.size + 1) s (elF (2 * t.length + 2) 1 t)) from elementR_c (w.heap.size + 1) s hs (2 * t.length + 2) 1 t W (by omega) (by omega) h))
  rw [h2] at EC
  have MD := Lib.hid (fun W h => miscR_c (w.heap.size + 1) s t1 W h (by omega))
  rw [h3] at MD
  have ER := Lib.hid (show XmP s = .ok d by unfold XmP; rw [h1]; simp only []; rw [h2]; simp only []; rw [h3]; rfl)
  have HK := Lib.hid (show s.length = s.length - ([] : List UInt8).length by simp)
  clear h1 h2 h3
  go_enter Tryz.func10, Tryz.ntmps10
  go_wp2_with (first | (go_at_call 21; (with_reducible refine (MC.out _ hR0).mono ?_); rintro e w1 ⟨hg1, rfl, hR1⟩; have hs1 := hg1.size; have hZ1 := hZ0.of_gb hg1 (by simp); have hQ2 := nb_new w1 []; have hZ2 := hZ1.of_bl ((Bl.refl w1).alloc (.cells #[.string ⟨#[]⟩, .slice none 0 0, .string ⟨#[]⟩, .slice none 0 0] 25)); have hR2 := hR1.of_bl ((Bl.refl w1).alloc (.cells #[.string ⟨#[]⟩, .slice none 0 0, .string ⟨#[]⟩, .slice none 0 0] 25)); have hg2 := gb_trans hg0 (gb_trans hg1 (gb_bl ((Bl.refl w1).alloc (.cells #[.string ⟨#[]⟩, .slice none 0 0, .string ⟨#[]⟩, .slice none 0 0] 25)))); have n1 : w.heap.size + 1 ≠ w1.heap.size := (by simp at hs1; omega); have n2 : w.heap.size ≠ w1.heap.size := (by simp at hs1; omega); have n3 : w.heap.size + 1 < w1.heap.size := (by simp at hs1; omega); obtain ⟨d0, d1, d2, d3, d4, d5⟩ := hR1.rk.cells; obtain ⟨s0, s1, s2, s3, t0, t1', t2', t3'⟩ := hZ1.cells; obtain ⟨c0, c1, c2, f0, f1, f2⟩ := hR2.rk.cells; obtain ⟨z0, z1, z2, z3, y0, y1, y2, y3⟩ := hZ2.cells; obtain ⟨m0, m1, m2, m3, g0, g1, g2, g3⟩ := hQ2.cells) | (go_at_call 22; (refine (EC.out _ hR2).mono ?_); rintro e w3 ⟨hg3, va, vk, rfl, hR3, P3, hA3, hK3, hP3⟩; have hs3 := hg3.size; have hQ3 := hQ2.of_gb hg3 (by simp; omega); have hZ3 := hZ2.of_gb hg3 (by simp); obtain ⟨sx1, sc1, rfl, -⟩ := id hA3; obtain ⟨sx2, sc2, rfl, -⟩ := id hK3; have hQ4 := fin4_nb (n := d.n) (va := .slice sx1 d.a.length sc1) (x := d.x) (vk := .slice sx2 d.k.length sc2) hQ3; have hZ4 : Nb (fin4 w3 w1.heap.size (.string ⟨d.n.toArray⟩) (.slice sx1 d.a.length sc1) (.string ⟨d.x.toArray⟩) (.slice sx2 d.k.length sc2)) w.heap.size [] (.slice none 0 0) [] (.slice none 0 0) := (((hZ3.far n2).far n2).far n2).far n2; have hR4 := fin4_yr (q := w1.heap.size) (v0 := (.string ⟨d.n.toArray⟩)) (v1 := (.slice sx1 d.a.length sc1)) (v2 := (.string ⟨d.x.toArray⟩)) (v3 := (.slice sx2 d.k.length sc2)) hR3 n1; have hg4 := fin4_gb (q := w1.heap.size) (v0 := (.string ⟨d.n.toArray⟩)) (v1 := (.slice sx1 d.a.length sc1)) (v2 := (.string ⟨d.x.toArray⟩)) (v3 := (.slice sx2 d.k.length sc2)) (gb_trans hg2 hg3) (by omega); unfold fin4 at hZ4 hR4 hg4 hQ4; clear c0 c1 c2 f0 f1 f2 z0 z1 z2 z3 y0 y1 y2 y3 m0 m1 m2 m3 g0 g1 g2 g3; obtain ⟨c0, c1, c2, f0, f1, f2⟩ := hR3.rk.cells; obtain ⟨z0, z1, z2, z3, y0, y1, y2, y3⟩ := hZ3.cells; obtain ⟨m0, m1, m2, m3, g0, g1, g2, g3⟩ := hQ3.cells; obtain ⟨i0, i1, i2, i3, j0, j1, j2, j3⟩ := hZ4.cells; obtain ⟨k0, k1, k2, l0, l1, l2⟩ := hR4.rk.cells; obtain ⟨o0, o1, o2, o3, -⟩ := hQ4.cells) | (go_at_call 21; (with_reducible refine (MD.out _ hR4).mono ?_); rintro e w5 ⟨hg5, rfl, hR5⟩; have hs5 := hg5.size; have hZ5 := hZ4.of_gb hg5 (by simp); have hQ5 := hQ4.of_gb hg5 (by simp; omega); have hg6 := gb_trans hg4 hg5; clear i0 i1 i2 i3 j0 j1 j2 j3 k0 k1 k2 l0 l1 l2 o0 o1 o2 o3; obtain ⟨i0, i1, i2, i3, j0, j1, j2, j3⟩ := hZ5.cells; obtain ⟨k0, k1, k2, l0, l1, l2⟩ := hR5.at_ HK.out; obtain ⟨o0, o1, o2, o3, -⟩ := hQ5.cells))
  have hBL := below_gr (k := w.heap.size) hg6 (fun j e => by cases e; omega) (Nat.le_refl _)
  go_region
  all_goals
    obtain ⟨q0, q1, q2, q3, -⟩ := (fin4_nb (n := d.n) (va := .slice sx1 d.a.length sc1) (x := d.x) (vk := .slice sx2 d.k.length sc2) hZ5).cells
    unfold fin4 at q0 q1 q2 q3
    go_wp2
    refine bodyPost_ret (v := .tuple #[.agg #[.string ⟨d.n.toArray⟩, .slice sx1 d.a.length sc1, .string ⟨d.x.toArray⟩, .slice sx2 d.k.length sc2], .int .i64 0]) (by simp [results, Tryz.results10, go_sem, q0, q1, q2, q3]) rfl ?_
    refine ⟨by repeat (first | (with_reducible exact hBL) | refine Below.drew ?_ | refine Below.drewN ?_ _ | refine Below.setCell ?_ (by first | exact Nat.le_refl _ | omega) _), ?_⟩
    rw [ER.out]
    simp only [alloc_size] at hs1 hs3 hP3
    have S1 : Still P3 w3 (fin4 w3 w1.heap.size (.string ⟨d.n.toArray⟩) (.slice sx1 d.a.length sc1) (.string ⟨d.x.toArray⟩) (.slice sx2 d.k.length sc2)) := fin4_still (fun h => by have := (hP3 _ h).1; omega)
    have S2 : Still P3 (fin4 w3 w1.heap.size (.string ⟨d.n.toArray⟩) (.slice sx1 d.a.length sc1) (.string ⟨d.x.toArray⟩) (.slice sx2 d.k.length sc2)) w5 := Still.of_gr hg5 (by rintro _ e h; cases e; have := (hP3 _ h).1; omega)
    have S3 : Still P3 w5 (fin4 w5 w.heap.size (.string ⟨d.n.toArray⟩) (.slice sx1 d.a.length sc1) (.string ⟨d.x.toArray⟩) (.slice sx2 d.k.length sc2)) := fin4_still (fun h => by have := (hP3 _ h).1; omega)
    have S4 := (S1.trans S2).trans S3
    have hz9 := S4.size
    refine ⟨_, _, rfl, P3, ?_, ?_, fun k hk => ⟨by have := (hP3 k hk).1; omega, ?_⟩⟩
    · repeat (first | exact hA3.still S4 | refine AtP.still ?_ (Still.of_bl (Below.drew (Bl.refl _))))
    · repeat (first | exact hK3.still S4 | refine NdS.of_bl ?_ (Below.drew (Bl.refl _)))
    · have := (hP3 k hk).2
      simp only [fin4_size] at hz9
      simp
      omega
theorem xmlOf_c (s : List UInt8) (w : World) (hs : s.length ≤ 1000000) : Calls Tryz.prog 10 #[.string ⟨s.toArray⟩] w fun e w' => AllEnd w (XmP s) e w' := by
  cases h1 : miX s with
  | error n => exact xmlOf_misc s w hs n h1
  | ok t =>
    cases h2 : elF (2 * t.length + 2) 1 t with
    | error n => exact xmlOf_el s w hs t h1 n h2
    | ok dt =>
      obtain ⟨d, t1⟩ := dt
      cases h3 : miX t1 with
      | error n => exact xmlOf_misc2 s w hs t h1 d t1 h2 n h3
      | ok t2 =>
        cases t2 with
        | nil => exact xmlOf_ok s w hs t h1 d t1 h2 h3
        | cons c r => exact xmlOf_rest s w hs t h1 d t1 h2 (c :: r) h3 (by simp) (by
            have e1 := miX_le h1
            have e2 := (el_x h2).2
            have e3 := miX_le h3
            omega)
end Go.Proofs.YtkacjnifhmgeiaaGreatDoor

/- Trees: node of the program (printed by gen_trenode.py). -/
import Derived.Test.YtlhodanmccpkdaaGreatDoorGrpF
import Derived.Test.YtlhodanmccpkdaaGreatDoorGrpG
namespace Go.Proofs.YtlhodanmccpkdaaGreatDoor
open Go.RowKit

theorem ndE_t1 {r : List Nm} {a : List Atr} {x : List UInt8} {k : List Nd} (h : x = [] ∨ a ≠ [] ∨ k ≠ []) : ndE r (.mk [] a x k) = 1 := by simp only [ndE, if_true]; rw [if_pos h]
theorem ndE_t0 {r : List Nm} {x : List UInt8} (h : x ≠ []) : ndE r (.mk [] [] x []) = 0 := by simp [ndE, h]
theorem ndE_e1 {r : List Nm} {n : Nm} {a : List Atr} {x : List UInt8} {k : List Nd} (hn : n ≠ []) (h : x ≠ [] ∨ isNm n = false ∨ (emptyN n = true ∧ k ≠ [])) : ndE r (.mk n a x k) = 1 := by simp only [ndE, if_neg hn]; rw [if_pos h]
theorem ndE_e2 {r : List Nm} {n : Nm} {a : List Atr} {k : List Nd} (hn : n ≠ []) (h1 : isNm n = true) (h2 : ¬ (emptyN n = true ∧ k ≠ [])) : ndE r (.mk n a [] k) = if atE a ≠ 0 then atE a else if cls r n < r.length then 4 else 0 := by
  simp only [ndE, if_neg hn]; rw [if_neg (by simp [h1]; simpa using h2)]
set_option maxRecDepth 100000 in
set_option maxHeartbeats 4000000 in
theorem node_c (d : Nd) (va vk vn : Value) (r : List Nm) (P : Nat → Prop) (w : World) (hn : d.n.length ≤ 1000000000) (ha : d.a.length ≤ 1000000000) (han : ∀ a ∈ d.a, a.1.length ≤ 1000000000) (hk : d.k.length ≤ 1000000000) (hr : r.length ≤ 10000000) (hA : AtP w P va d.a) (hK : ∃ a c, vk = .slice a d.k.length c) (hS : StS w vn r.reverse) :
    Calls Tryz.prog 32 #[.agg #[.string ⟨d.n.toArray⟩, va, .string ⟨d.x.toArray⟩, vk], vn] w fun e w' => e = .returned (.int .i64 (ndE r d)) ∧ Bl w w' := by
  obtain ⟨n, a, x, k⟩ := d
  simp only [Nd.n, Nd.a, Nd.x, Nd.k] at *
  have NC := Lib.hid (fun W => name_c n (by omega) W)
  have EC := Lib.hid (fun W => empty_c n W)
  have AC := Lib.hid (fun W (hb : Bl w W) => attrsE_c a va (by omega) (fun b hb => by have := han b hb; omega) W (hA.ats.of_bl hb) hA.cap)
  have SC := Lib.hid (fun W (hb : Bl w W) => stays_c r.reverse vn n (by simp; omega) W (hS.of_bl hb))
  have HSI : stI r.reverse n = cls r n := by unfold stI; rw [List.reverse_reverse]
  rw [HSI] at SC
  clear HSI
  obtain ⟨aa, ac, rfl⟩ : ∃ b c, va = .slice b a.length c := by obtain ⟨b, c, e, -⟩ := hA; exact ⟨b, c, e⟩
  obtain ⟨ka, kc, rfl⟩ := hK
  obtain ⟨na, nc, rfl⟩ : ∃ b c, vn = .slice b r.length c := by obtain ⟨b, c, e, -⟩ := hS; exact ⟨b, c, by simpa using e⟩
  clear hA hS han
  by_cases hn0 : n = []
  · subst hn0
    by_cases hx0 : x = []
    · subst hx0
      have HR := Lib.hid (ndE_t1 (r := r) (a := a) (x := []) (k := k) (.inl rfl))
      go_enter Tryz.func32, Tryz.ntmps32
      go_wp2_with (first | (go_at_call 34; (with_reducible refine (NC.out _).mono ?_); rintro e w1 ⟨rfl, rfl⟩) | (go_at_call 31; (with_reducible refine (EC.out _).mono ?_); rintro e w2 ⟨rfl, rfl⟩) | (go_at_call 35; (with_reducible refine (AC.out _ ((Bl.refl _).alloc _)).mono ?_); rintro e w3 ⟨rfl, hb3⟩; have hb4 := ((Bl.refl w).alloc _).trans hb3; have z0 : w3.cell? ⟨w.heap.size, 0, none⟩ = some (.string ⟨n.toArray⟩) := (hb3.cells.1 w.heap.size 0 (by simp)).trans (by simp)) | (go_at_call 39; (with_reducible refine (SC.out _ hb4).mono ?_); rintro e w5 ⟨rfl, rfl⟩))
      go_ret
      exact ⟨ret_int (HR.out.symm), (Bl.refl _).alloc _⟩
    · have hxe : x.isEmpty = false := by cases x <;> simp_all
      by_cases ha0 : a = []
      · subst ha0
        by_cases hk0 : k = []
        · subst hk0
          have HR := Lib.hid (ndE_t0 (r := r) hx0)
          clear hx0
          go_enter Tryz.func32, Tryz.ntmps32
          go_wp2_with (first | (go_at_call 34; (with_reducible refine (NC.out _).mono ?_); rintro e w1 ⟨rfl, rfl⟩) | (go_at_call 31; (with_reducible refine (EC.out _).mono ?_); rintro e w2 ⟨rfl, rfl⟩) | (go_at_call 35; (with_reducible refine (AC.out _ ((Bl.refl _).alloc _)).mono ?_); rintro e w3 ⟨rfl, hb3⟩; have hb4 := ((Bl.refl w).alloc _).trans hb3; have z0 : w3.cell? ⟨w.heap.size, 0, none⟩ = some (.string ⟨n.toArray⟩) := (hb3.cells.1 w.heap.size 0 (by simp)).trans (by simp)) | (go_at_call 39; (with_reducible refine (SC.out _ hb4).mono ?_); rintro e w5 ⟨rfl, rfl⟩))
          go_ret
          exact ⟨ret_int (HR.out.symm), (Bl.refl _).alloc _⟩
        · have hkp : (0 : Int) < (k.length : Int) := by have := List.length_pos_iff.2 hk0; omega
          have HR := Lib.hid (ndE_t1 (r := r) (a := []) (x := x) (k := k) (.inr (.inr hk0)))
          clear hx0 hk0
          go_enter Tryz.func32, Tryz.ntmps32
          go_wp2_with (first | (go_at_call 34; (with_reducible refine (NC.out _).mono ?_); rintro e w1 ⟨rfl, rfl⟩) | (go_at_call 31; (with_reducible refine (EC.out _).mono ?_); rintro e w2 ⟨rfl, rfl⟩) | (go_at_call 35; (with_reducible refine (AC.out _ ((Bl.refl _).alloc _)).mono ?_); rintro e w3 ⟨rfl, hb3⟩; have hb4 := ((Bl.refl w).alloc _).trans hb3; have z0 : w3.cell? ⟨w.heap.size, 0, none⟩ = some (.string ⟨n.toArray⟩) := (hb3.cells.1 w.heap.size 0 (by simp)).trans (by simp)) | (go_at_call 39; (with_reducible refine (SC.out _ hb4).mono ?_); rintro e w5 ⟨rfl, rfl⟩))
          go_ret
          exact ⟨ret_int (HR.out.symm), (Bl.refl _).alloc _⟩
      · have hap : (0 : Int) < (a.length : Int) := by have := List.length_pos_iff.2 ha0; omega
        have HR := Lib.hid (ndE_t1 (r := r) (a := a) (x := x) (k := k) (.inr (.inl ha0)))
        clear hx0
        go_enter Tryz.func32, Tryz.ntmps32
        go_wp2_with (first | (go_at_call 34; (with_reducible refine (NC.out _).mono ?_); rintro e w1 ⟨rfl, rfl⟩) | (go_at_call 31; (with_reducible refine (EC.out _).mono ?_); rintro e w2 ⟨rfl, rfl⟩) | (go_at_call 35; (with_reducible refine (AC.out _ ((Bl.refl _).alloc _)).mono ?_); rintro e w3 ⟨rfl, hb3⟩; have hb4 := ((Bl.refl w).alloc _).trans hb3; have z0 : w3.cell? ⟨w.heap.size, 0, none⟩ = some (.string ⟨n.toArray⟩) := (hb3.cells.1 w.heap.size 0 (by simp)).trans (by simp)) | (go_at_call 39; (with_reducible refine (SC.out _ hb4).mono ?_); rintro e w5 ⟨rfl, rfl⟩))
        go_ret
        exact ⟨ret_int (HR.out.symm), (Bl.refl _).alloc _⟩
  · have hne : n.isEmpty = false := by cases n <;> simp_all
    by_cases hx0 : x = []
    · subst hx0
      cases hN : isNm n
      · rw [hN] at NC
        have HR := Lib.hid (ndE_e1 (r := r) (a := a) (x := []) (k := k) hn0 (.inr (.inl hN)))
        clear hn0 hN
        go_enter Tryz.func32, Tryz.ntmps32
        go_wp2_with (first | (go_at_call 34; (with_reducible refine (NC.out _).mono ?_); rintro e w1 ⟨rfl, rfl⟩) | (go_at_call 31; (with_reducible refine (EC.out _).mono ?_); rintro e w2 ⟨rfl, rfl⟩) | (go_at_call 35; (with_reducible refine (AC.out _ ((Bl.refl _).alloc _)).mono ?_); rintro e w3 ⟨rfl, hb3⟩; have hb4 := ((Bl.refl w).alloc _).trans hb3; have z0 : w3.cell? ⟨w.heap.size, 0, none⟩ = some (.string ⟨n.toArray⟩) := (hb3.cells.1 w.heap.size 0 (by simp)).trans (by simp)) | (go_at_call 39; (with_reducible refine (SC.out _ hb4).mono ?_); rintro e w5 ⟨rfl, rfl⟩))
        go_ret
        exact ⟨ret_int (HR.out.symm), (Bl.refl _).alloc _⟩
      · rw [hN] at NC
        have key : (emptyN n = true ∧ k ≠ []) ∨ ¬ (emptyN n = true ∧ k ≠ []) := Classical.em _
        cases hE : emptyN n
        · rw [hE] at EC
          have HE := Lib.hid (ndE_e2 (r := r) (a := a) (k := k) hn0 hN (by rw [hE]; simp))
          clear key hE hN hn0
          by_cases he : atE a = 0
          · rw [he] at AC
            by_cases hc : cls r n < r.length
            · have hci : ((cls r n : Nat) : Int) < (r.length : Int) := by omega
              have HR := Lib.hid (show ndE r (.mk n a [] k) = 4 by rw [HE.out, if_neg (by simp [he]), if_pos hc])
              clear he hc
              go_enter Tryz.func32, Tryz.ntmps32
              go_wp2_with (first | (go_at_call 34; (with_reducible refine (NC.out _).mono ?_); rintro e w1 ⟨rfl, rfl⟩) | (go_at_call 31; (with_reducible refine (EC.out _).mono ?_); rintro e w2 ⟨rfl, rfl⟩) | (go_at_call 35; (with_reducible refine (AC.out _ ((Bl.refl _).alloc _)).mono ?_); rintro e w3 ⟨rfl, hb3⟩; have hb4 := ((Bl.refl w).alloc _).trans hb3; have z0 : w3.cell? ⟨w.heap.size, 0, none⟩ = some (.string ⟨n.toArray⟩) := (hb3.cells.1 w.heap.size 0 (by simp)).trans (by simp)) | (go_at_call 39; (with_reducible refine (SC.out _ hb4).mono ?_); rintro e w5 ⟨rfl, rfl⟩))
              go_ret
              exact ⟨ret_int HR.out.symm, hb4⟩
            · have hci : ¬ ((cls r n : Nat) : Int) < (r.length : Int) := by omega
              have HR := Lib.hid (show ndE r (.mk n a [] k) = 0 by rw [HE.out, if_neg (by simp [he]), if_neg hc])
              clear he hc
              go_enter Tryz.func32, Tryz.ntmps32
              go_wp2_with (first | (go_at_call 34; (with_reducible refine (NC.out _).mono ?_); rintro e w1 ⟨rfl, rfl⟩) | (go_at_call 31; (with_reducible refine (EC.out _).mono ?_); rintro e w2 ⟨rfl, rfl⟩) | (go_at_call 35; (with_reducible refine (AC.out _ ((Bl.refl _).alloc _)).mono ?_); rintro e w3 ⟨rfl, hb3⟩; have hb4 := ((Bl.refl w).alloc _).trans hb3; have z0 : w3.cell? ⟨w.heap.size, 0, none⟩ = some (.string ⟨n.toArray⟩) := (hb3.cells.1 w.heap.size 0 (by simp)).trans (by simp)) | (go_at_call 39; (with_reducible refine (SC.out _ hb4).mono ?_); rintro e w5 ⟨rfl, rfl⟩))
              go_ret
              exact ⟨ret_int HR.out.symm, hb4⟩
          · have HR := Lib.hid (show ndE r (.mk n a [] k) = atE a by rw [HE.out, if_pos he])
            obtain ⟨q, hq⟩ : ∃ q, q = atE a := ⟨_, rfl⟩
            rw [← hq] at AC he HR
            have he' : (q == 0) = false := by simpa using he
            have he2 : (q != 0) = true := by simpa using he
            clear he hq
            go_enter Tryz.func32, Tryz.ntmps32
            go_wp2_with (first | (go_at_call 34; (with_reducible refine (NC.out _).mono ?_); rintro e w1 ⟨rfl, rfl⟩) | (go_at_call 31; (with_reducible refine (EC.out _).mono ?_); rintro e w2 ⟨rfl, rfl⟩) | (go_at_call 35; (with_reducible refine (AC.out _ ((Bl.refl _).alloc _)).mono ?_); rintro e w3 ⟨rfl, hb3⟩; have hb4 := ((Bl.refl w).alloc _).trans hb3; have z0 : w3.cell? ⟨w.heap.size, 0, none⟩ = some (.string ⟨n.toArray⟩) := (hb3.cells.1 w.heap.size 0 (by simp)).trans (by simp)) | (go_at_call 39; (with_reducible refine (SC.out _ hb4).mono ?_); rintro e w5 ⟨rfl, rfl⟩))
            go_ret
            exact ⟨ret_int HR.out.symm, hb4⟩
        · rw [hE] at EC
          by_cases hk0 : k = []
          · subst hk0
            have HE := Lib.hid (ndE_e2 (r := r) (a := a) (k := []) hn0 hN (by simp))
            clear key hE hN hn0
            by_cases he : atE a = 0
            · rw [he] at AC
              by_cases hc : cls r n < r.length
              · have hci : ((cls r n : Nat) : Int) < (r.length : Int) := by omega
                have HR := Lib.hid (show ndE r (.mk n a [] []) = 4 by rw [HE.out, if_neg (by simp [he]), if_pos hc])
                clear he hc
                go_enter Tryz.func32, Tryz.ntmps32
                go_wp2_with (first | (go_at_call 34; (with_reducible refine (NC.out _).mono ?_); rintro e w1 ⟨rfl, rfl⟩) | (go_at_call 31; (with_reducible refine (EC.out _).mono ?_); rintro e w2 ⟨rfl, rfl⟩) | (go_at_call 35; (with_reducible refine (AC.out _ ((Bl.refl _).alloc _)).mono ?_); rintro e w3 ⟨rfl, hb3⟩; have hb4 := ((Bl.refl w).alloc _).trans hb3; have z0 : w3.cell? ⟨w.heap.size, 0, none⟩ = some (.string ⟨n.toArray⟩) := (hb3.cells.1 w.heap.size 0 (by simp)).trans (by simp)) | (go_at_call 39; (with_reducible refine (SC.out _ hb4).mono ?_); rintro e w5 ⟨rfl, rfl⟩))
                go_ret
                exact ⟨ret_int HR.out.symm, hb4⟩
              · have hci : ¬ ((cls r n : Nat) : Int) < (r.length : Int) := by omega
                have HR := Lib.hid (show ndE r (.mk n a [] []) = 0 by rw [HE.out, if_neg (by simp [he]), if_neg hc])
                clear he hc
                go_enter Tryz.func32, Tryz.ntmps32
                go_wp2_with (first | (go_at_call 34; (with_reducible refine (NC.out _).mono ?_); rintro e w1 ⟨rfl, rfl⟩) | (go_at_call 31; (with_reducible refine (EC.out _).mono ?_); rintro e w2 ⟨rfl, rfl⟩) | (go_at_call 35; (with_reducible refine (AC.out _ ((Bl.refl _).alloc _)).mono ?_); rintro e w3 ⟨rfl, hb3⟩; have hb4 := ((Bl.refl w).alloc _).trans hb3; have z0 : w3.cell? ⟨w.heap.size, 0, none⟩ = some (.string ⟨n.toArray⟩) := (hb3.cells.1 w.heap.size 0 (by simp)).trans (by simp)) | (go_at_call 39; (with_reducible refine (SC.out _ hb4).mono ?_); rintro e w5 ⟨rfl, rfl⟩))
                go_ret
                exact ⟨ret_int HR.out.symm, hb4⟩
            · have HR := Lib.hid (show ndE r (.mk n a [] []) = atE a by rw [HE.out, if_pos he])
              obtain ⟨q, hq⟩ : ∃ q, q = atE a := ⟨_, rfl⟩
              rw [← hq] at AC he HR
              have he' : (q == 0) = false := by simpa using he
              have he2 : (q != 0) = true := by simpa using he
              clear he hq
              go_enter Tryz.func32, Tryz.ntmps32
              go_wp2_with (first | (go_at_call 34; (with_reducible refine (NC.out _).mono ?_); rintro e w1 ⟨rfl, rfl⟩) | (go_at_call 31; (with_reducible refine (EC.out _).mono ?_); rintro e w2 ⟨rfl, rfl⟩) | (go_at_call 35; (with_reducible refine (AC.out _ ((Bl.refl _).alloc _)).mono ?_); rintro e w3 ⟨rfl, hb3⟩; have hb4 := ((Bl.refl w).alloc _).trans hb3; have z0 : w3.cell? ⟨w.heap.size, 0, none⟩ = some (.string ⟨n.toArray⟩) := (hb3.cells.1 w.heap.size 0 (by simp)).trans (by simp)) | (go_at_call 39; (with_reducible refine (SC.out _ hb4).mono ?_); rintro e w5 ⟨rfl, rfl⟩))
              go_ret
              exact ⟨ret_int HR.out.symm, hb4⟩
          · have hkp : (0 : Int) < (k.length : Int) := by have := List.length_pos_iff.2 hk0; omega
            have HR := Lib.hid (ndE_e1 (r := r) (a := a) (x := []) (k := k) hn0 (.inr (.inr ⟨hE, hk0⟩)))
            clear key hE hN hn0 hk0
            go_enter Tryz.func32, Tryz.ntmps32
            go_wp2_with (first | (go_at_call 34; (with_reducible refine (NC.out _).mono ?_); rintro e w1 ⟨rfl, rfl⟩) | (go_at_call 31; (with_reducible refine (EC.out _).mono ?_); rintro e w2 ⟨rfl, rfl⟩) | (go_at_call 35; (with_reducible refine (AC.out _ ((Bl.refl _).alloc _)).mono ?_); rintro e w3 ⟨rfl, hb3⟩; have hb4 := ((Bl.refl w).alloc _).trans hb3; have z0 : w3.cell? ⟨w.heap.size, 0, none⟩ = some (.string ⟨n.toArray⟩) := (hb3.cells.1 w.heap.size 0 (by simp)).trans (by simp)) | (go_at_call 39; (with_reducible refine (SC.out _ hb4).mono ?_); rintro e w5 ⟨rfl, rfl⟩))
            go_ret
            exact ⟨ret_int (HR.out.symm), (Bl.refl _).alloc _⟩
    · have hxe : x.isEmpty = false := by cases x <;> simp_all
      have HR := Lib.hid (ndE_e1 (r := r) (a := a) (x := x) (k := k) hn0 (.inl hx0))
      clear hn0 hx0
      go_enter Tryz.func32, Tryz.ntmps32
      go_wp2_with (first | (go_at_call 34; (with_reducible refine (NC.out _).mono ?_); rintro e w1 ⟨rfl, rfl⟩) | (go_at_call 31; (with_reducible refine (EC.out _).mono ?_); rintro e w2 ⟨rfl, rfl⟩) | (go_at_call 35; (with_reducible refine (AC.out _ ((Bl.refl _).alloc _)).mono ?_); rintro e w3 ⟨rfl, hb3⟩; have hb4 := ((Bl.refl w).alloc _).trans hb3; have z0 : w3.cell? ⟨w.heap.size, 0, none⟩ = some (.string ⟨n.toArray⟩) := (hb3.cells.1 w.heap.size 0 (by simp)).trans (by simp)) | (go_at_call 39; (with_reducible refine (SC.out _ hb4).mono ?_); rintro e w5 ⟨rfl, rfl⟩))
      go_ret
      exact ⟨ret_int (HR.out.symm), (Bl.refl _).alloc _⟩
end Go.Proofs.YtlhodanmccpkdaaGreatDoor

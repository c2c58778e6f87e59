/- Shelves: the law ShelfOnce. -/
import Derived.Test.YthnpljkekhieiaaGreatDoorGrpX
namespace Go.Proofs.YthnpljkekhieiaaGreatDoor
open Go.RowKit

theorem EnS.take {w : World} {ao : Option Addr} {n c : Nat} {l : List Ent} (h : EnS w (.slice ao n c) l) (i : Nat) (hi : i ≤ n) : EnS w (.slice ao i c) (l.take i) := by
  obtain ⟨a, cap, e, hc, h⟩ := h
  cases e
  have hlt : (l.take i).length = i := by rw [List.length_take]; omega
  refine ⟨ao, c, by rw [hlt], by omega, fun j hj => ?_⟩
  have hj' : j < l.length := by omega
  rw [List.getElem_take]
  exact h j hj'
theorem chk_id {x : Ent} (h : chkE x = 0) : (eI x).length ≤ 60 := by
  unfold chkE at h
  split at h
  · omega
  · split at h
    · omega
    · omega
/-- Did one id come twice among the first k? -/
def twB (l : List Ent) (k : Nat) : Bool := (List.range k).any fun i => decide (0 ≤ plI (l.take i) (eI (l.getD i zE)))
theorem twB_next (l : List Ent) (k : Nat) (h : k < l.length) : twB l (k + 1) = (twB l k || decide (0 ≤ plI (l.take k) (eI l[k]))) := by
  unfold twB
  rw [List.range_succ, List.any_append]
  simp only [List.any_cons, List.any_nil, Bool.or_false]
  rw [getD_get l zE k h]
theorem plI_neg {l : List Ent} {i : Nm} (h : decide (0 ≤ plI l i) = false) : plE l i = none := by
  have h := of_decide_eq_false h
  unfold plI at h
  cases hp : plE l i with
  | none => rfl
  | some k => rw [hp] at h; exact absurd (Int.natCast_nonneg k) h
theorem twB_ids {l : List Ent} (h : twB l l.length = false) : Ids l := by
  unfold Ids
  rw [List.pairwise_iff_getElem]
  intro i j hi hj hij he
  unfold twB at h
  rw [List.any_eq_false] at h
  have h1 := h j (List.mem_range.2 hj)
  rw [getD_get _ _ _ hj] at h1
  have h2 := plE_none (plI_neg (by simpa using h1)) l[i] (by rw [List.mem_iff_getElem]; exact ⟨i, by rw [List.length_take]; omega, by rw [List.getElem_take]⟩)
  exact h2 he
set_option maxRecDepth 100000 in
set_option maxHeartbeats 8000000 in
theorem once_no (s : Shf) (v va : Value) (l : List Ent) (hI : ∀ x ∈ s.1, (eI x).length ≤ 9223372036854775807) (hl : l.length ≤ 9223372036854775807) (hp : putC s l ≠ 0) (w : World) (hE : ES w) (hM : ML w) (hS : ShS w v s) (hA : EnS w va l) :
    Calls Tryz.prog 6 #[v, va] w fun e w' => e = .returned (.bool true) ∧ Bl w w' := by
  have BG := Lib.hid (fun W h1 h2 => shBegun_c W h1 h2)
  have PT1 := Lib.hid (fun W h1 h2 h3 h4 => PutS_c s v va l hI hl W h1 h2 h3 h4)
  obtain ⟨C, hC⟩ : ∃ C, C = putC s l := ⟨_, rfl⟩
  rw [show putM s l = 0 by unfold putM; rw [if_neg hp], show putS s l = ([], []) by unfold putS; rw [if_neg hp], ← hC] at PT1
  rw [← hC] at hp
  clear hC
  have HAl := Lib.hid hA
  have HS := Lib.hid hS
  obtain ⟨ve, vr, rfl, hEn, hRd⟩ := hS
  obtain ⟨ao, cap, rfl, hcap, -⟩ := hEn
  obtain ⟨ar, cr, rfl, hcr, -⟩ := hRd
  obtain ⟨aa, ca, rfl, hca, -⟩ := hA
  have Q0 := B2.new w (.slice ao s.1.length cap) (.slice ar s.2.length cr) 25
  have hB := Bl.refl w
  go_enter Tryz.func6, Tryz.ntmps6
  go_wp2_with (first | (go_at_call 7; (with_reducible refine (BG.out _ ?_ ?_).mono ?_); (exact hE.of_bl (by repeat (first | exact hB | refine Bl.drew ?_ | refine Bl.drewN ?_ _ | refine Bl.alloc ?_ _))); (exact hM.of_bl (by repeat (first | exact hB | refine Bl.drew ?_ | refine Bl.drewN ?_ _ | refine Bl.alloc ?_ _))); rintro e wG ⟨rfl, hbG⟩; replace hB : Bl w wG := Bl.trans (by repeat (first | exact hB | refine Bl.drew ?_ | refine Bl.drewN ?_ _ | refine Bl.alloc ?_ _)) hbG; replace Q0 := Q0.of_bl (Bl.trans (by repeat (first | exact (Bl.refl _) | refine Bl.drew ?_ | refine Bl.drewN ?_ _ | refine Bl.alloc ?_ _)) hbG); obtain ⟨lQ0, q0a, q0b⟩ := id Q0) | (go_at_call 13; (with_reducible refine (PT1.out _ ?_ ?_ ?_ ?_).mono ?_); (exact hE.of_bl (by repeat (first | exact hB | refine Bl.drew ?_ | refine Bl.drewN ?_ _ | refine Bl.alloc ?_ _))); (exact hM.of_bl (by repeat (first | exact hB | refine Bl.drew ?_ | refine Bl.drewN ?_ _ | refine Bl.alloc ?_ _))); (exact HS.out.of_bl (by repeat (first | exact hB | refine Bl.drew ?_ | refine Bl.drewN ?_ _ | refine Bl.alloc ?_ _))); (exact HAl.out.of_bl (by repeat (first | exact hB | refine Bl.drew ?_ | refine Bl.drewN ?_ _ | refine Bl.alloc ?_ _))); rintro e wP ⟨svP, rfl, hSP, hbP⟩; replace hB : Bl w wP := Bl.trans (by repeat (first | exact hB | refine Bl.drew ?_ | refine Bl.drewN ?_ _ | refine Bl.alloc ?_ _)) hbP; replace Q0 := Q0.of_bl (Bl.trans (by repeat (first | exact (Bl.refl _) | refine Bl.drew ?_ | refine Bl.drewN ?_ _ | refine Bl.alloc ?_ _)) hbP); obtain ⟨lQ0, q0a, q0b⟩ := id Q0; have HP := Lib.hid hSP; obtain ⟨eP, rP, rfl, hEP, hRP⟩ := hSP; obtain ⟨aP, cP, rfl, hcP, -⟩ := hEP; obtain ⟨tP, uP, rfl, -, -⟩ := hRP; have BP := Bl.refl wP))
  go_ret
  exact ⟨rfl, hB.alloc _⟩
set_option maxRecDepth 100000 in
set_option maxHeartbeats 8000000 in
theorem once_ok (s : Shf) (v va : Value) (l : List Ent) (hI : ∀ x ∈ s.1, (eI x).length ≤ 9223372036854775807) (hl : l.length ≤ 9223372036854775807) (hp : putC s l = 0) (w : World) (hE : ES w) (hM : ML w) (hS : ShS w v s) (hA : EnS w va l) :
    Calls Tryz.prog 6 #[v, va] w fun e w' => e = .returned (.bool true) ∧ Bl w w' := by
  have BG := Lib.hid (fun W h1 h2 => shBegun_c W h1 h2)
  have hcp := (putC_iff s l).1 hp
  obtain ⟨hRs, hl12, hch⟩ := hcp
  obtain ⟨L, hL⟩ : ∃ L, L = putL s l := ⟨_, rfl⟩
  have hRT : Rs (L, s.2) := by rw [hL]; exact put_right hRs hch
  have hL20 : L.length ≤ 20 := hRT.1
  have hR40 : s.2.length ≤ 40 := hRT.2.1
  have hpT : putC (L, s.2) l = 0 := (putC_iff _ _).2 ⟨hRT, hl12, hch⟩
  have O1 := Lib.hid (show ∀ x ∈ l, (plE L (eI x) = none → 20 ≤ L.length) ∧ ∀ k, plE L (eI x) = some k → eA x ≤ eA (L.getD k default) from fun x hx => by rw [hL]; exact once1 hRs hx)
  have O2 := Lib.hid (show Ids l → putL (L, s.2) l = L ∧ putN (L, s.2) l = 0 from fun hd => by rw [hL]; exact once2 hRs hd)
  have hIL : ∀ x ∈ L, (eI x).length ≤ 9223372036854775807 := fun x hx => by
    have h := hRT.2.2.1.2.2 x hx
    have h2 := chk_id h
    omega
  have PT1 := Lib.hid (fun W h1 h2 h3 h4 => PutS_c s v va l hI hl W h1 h2 h3 h4)
  obtain ⟨N, hN⟩ : ∃ N, N = putM s l := ⟨_, rfl⟩
  rw [hp, show putS s l = (L, s.2) by unfold putS; rw [if_pos hp, hL], ← hN] at PT1
  have CH := Lib.hid (fun va W h1 h2 h3 => checkS_c (L, s.2) va hIL W h1 h2 h3)
  rw [(ckS_iff _).2 hRT] at CH
  have ST := Lib.hid (fun W va vb h1 h2 => sameT_c s.2 s.2 va vb (by omega) W h1 h2)
  rw [show decide (s.2 = s.2) = true by simp] at ST
  have SC := Lib.hid (fun W va vb h1 h2 => sameSh_c (L, s.2) (L, s.2) va vb (by show L.length ≤ _; omega) (by show s.2.length ≤ _; omega) W h1 h2)
  rw [show decide ((L, s.2).1 = (L, s.2).1 ∧ (L, s.2).2 = (L, s.2).2) = true by simp] at SC
  have PT20 := fun (hd : Ids l) vb W h1 h2 h3 h4 => PutS_c (L, s.2) vb va l hIL hl W h1 h2 h3 h4
  have HPT := Lib.hid (show Ids l → ∀ vb W, ES W → ML W → ShS W vb (L, s.2) → EnS W va l → Calls Tryz.prog 13 #[vb, va] W fun e w' => ∃ sv, e = .returned (.tuple #[sv, .int .i64 0, .int .i64 0]) ∧ ShS w' sv (L, s.2) ∧ Bl W w' from fun hd vb W h1 h2 h3 h4 => by
    have h := PT20 hd vb W h1 h2 h3 h4
    rw [show putM (L, s.2) l = 0 by unfold putM; rw [if_pos hpT, (O2.out hd).2], hpT, show putS (L, s.2) l = (L, s.2) by unfold putS; rw [if_pos hpT, (O2.out hd).1]] at h
    exact h)
  have HAl := Lib.hid hA
  have HS := Lib.hid hS
  obtain ⟨ve, vr, rfl, hEn, hRd⟩ := hS
  obtain ⟨ao, cap, rfl, hcap, -⟩ := hEn
  obtain ⟨ar, cr, rfl, hcr, -⟩ := hRd
  obtain ⟨aa, ca, rfl, hca, -⟩ := hA
  have Q0 := B2.new w (.slice ao s.1.length cap) (.slice ar s.2.length cr) 25
  have hB := Bl.refl w
  clear hL hN PT20 hRs hRT hpT hch hIL hI hp
  go_enter Tryz.func6, Tryz.ntmps6
  go_wp2_with (first | (go_at_call 7; (with_reducible refine (BG.out _ ?_ ?_).mono ?_); (exact hE.of_bl (by repeat (first | exact hB | refine Bl.drew ?_ | refine Bl.drewN ?_ _ | refine Bl.alloc ?_ _))); (exact hM.of_bl (by repeat (first | exact hB | refine Bl.drew ?_ | refine Bl.drewN ?_ _ | refine Bl.alloc ?_ _))); rintro e wG ⟨rfl, hbG⟩; replace hB : Bl w wG := Bl.trans (by repeat (first | exact hB | refine Bl.drew ?_ | refine Bl.drewN ?_ _ | refine Bl.alloc ?_ _)) hbG; replace Q0 := Q0.of_bl (Bl.trans (by repeat (first | exact (Bl.refl _) | refine Bl.drew ?_ | refine Bl.drewN ?_ _ | refine Bl.alloc ?_ _)) hbG); obtain ⟨lQ0, q0a, q0b⟩ := id Q0) | (go_at_call 13; (with_reducible refine (PT1.out _ ?_ ?_ ?_ ?_).mono ?_); (exact hE.of_bl (by repeat (first | exact hB | refine Bl.drew ?_ | refine Bl.drewN ?_ _ | refine Bl.alloc ?_ _))); (exact hM.of_bl (by repeat (first | exact hB | refine Bl.drew ?_ | refine Bl.drewN ?_ _ | refine Bl.alloc ?_ _))); (exact HS.out.of_bl (by repeat (first | exact hB | refine Bl.drew ?_ | refine Bl.drewN ?_ _ | refine Bl.alloc ?_ _))); (exact HAl.out.of_bl (by repeat (first | exact hB | refine Bl.drew ?_ | refine Bl.drewN ?_ _ | refine Bl.alloc ?_ _))); rintro e wP ⟨svP, rfl, hSP, hbP⟩; replace hB : Bl w wP := Bl.trans (by repeat (first | exact hB | refine Bl.drew ?_ | refine Bl.drewN ?_ _ | refine Bl.alloc ?_ _)) hbP; replace Q0 := Q0.of_bl (Bl.trans (by repeat (first | exact (Bl.refl _) | refine Bl.drew ?_ | refine Bl.drewN ?_ _ | refine Bl.alloc ?_ _)) hbP); obtain ⟨lQ0, q0a, q0b⟩ := id Q0; have HP := Lib.hid hSP; obtain ⟨eP, rP, rfl, hEP, hRP⟩ := hSP; obtain ⟨aP, cP, rfl, hcP, -⟩ := hEP; obtain ⟨tP, uP, rfl, -, -⟩ := hRP; have BP := Bl.refl wP))
  have HPn := Lib.hid (shs_ens HP.out)
  have Q1 := B2.new wP (.slice aP L.length cP) (.slice tP s.2.length uP) 25
  go_loopw [8, 9] (fun t j wr => ∃ k : Nat, k ≤ l.length ∧ t = .bool (twB l k) ∧ j = .int .i64 k ∧ Bl w wr ∧ Bl wP wr ∧ B2 wr w.heap.size (.slice ao s.1.length cap) (.slice ar s.2.length cr) ∧ B2 wr wP.heap.size (.slice aP L.length cP) (.slice tP s.2.length uP)) (fun _ j _ => l.length - (intOf j).toNat)
  case atStart => exact ⟨0, Nat.zero_le _, rfl, rfl, (by repeat (first | exact hB | refine Bl.drew ?_ | refine Bl.drewN ?_ _ | refine Bl.alloc ?_ _)), (by repeat (first | exact BP | refine Bl.drew ?_ | refine Bl.drewN ?_ _ | refine Bl.alloc ?_ _)), Q0.of_bl (by repeat (first | exact (Bl.refl _) | refine Bl.drew ?_ | refine Bl.drewN ?_ _ | refine Bl.alloc ?_ _)), Q1.of_bl (by repeat (first | exact (Bl.refl _) | refine Bl.drew ?_ | refine Bl.drewN ?_ _ | refine Bl.alloc ?_ _))⟩
  case round =>
    obtain ⟨k, hk, rfl, rfl, hB, BP, Q0, Q1⟩ := hrel
    obtain ⟨lQ0, q0a, q0b⟩ := id Q0
    obtain ⟨lQ1, q1a, q1b⟩ := id Q1
    by_cases hlt : k < l.length
    · obtain ⟨a', c', e', -, hA⟩ := HAl.out
      cases e'
      obtain ⟨g, o, hao, hg, h1, -, -, h4, -⟩ := hA k hlt
      subst hao
      have x1 := (hB.cells.1 g _ hg).trans h1
      have x4 := (hB.cells.1 g _ hg).trans h4
      have E0 := Lib.hid (fun W (hh : Bl wr W) => entryAt_c (l.take k) _ (eI l[k]) (by rw [List.length_take]; omega) W (((HAl.out.of_bl hB).of_bl hh).take k hk))
      have E1 := Lib.hid (fun W (hh : Bl wr W) => entryAt_c L _ (eI l[k]) (by omega) W ((HPn.out.of_bl BP).of_bl hh))
      have HT := Lib.hid (twB_next l k hlt)
      obtain ⟨p, hp⟩ : ∃ p, p = plI (l.take k) (eI l[k]) := ⟨_, rfl⟩
      rw [← hp] at E0 HT
      have o1 := O1.out _ (List.getElem_mem hlt)
      clear h1 h4 hA hp
      cases hpl : plE L (eI l[k]) with
      | none =>
        have n20 : ¬ (L.length : Int) < 20 := by have := o1.1 hpl; omega
        rw [show plI L (eI l[k]) = -1 by unfold plI; rw [hpl]] at E1
        clear o1 hpl
        cases htw : twB l k
        · rw [htw] at HT
          clear htw
          go_wp2_with (go_quiet ((go_at_call 14; first | with_reducible exact quiet_eq (E0.out _ ((Bl.refl _).drewN _)) | with_reducible exact quiet_eq2 (E0.out _ ((Bl.refl _).drewN _)) | with_reducible exact quiet_eq (E1.out _ ((Bl.refl _).drewN _)) | with_reducible exact quiet_eq2 (E1.out _ ((Bl.refl _).drewN _)) | with_reducible exact quiet_eq2 (E1.out _ (((Bl.refl _).drewN _).drewN _)))))
          go_roundw
          case rel => exact ⟨k + 1, by omega, by rw [HT.out]; simp, by go_num, (by repeat (first | exact hB | refine Bl.drew ?_ | refine Bl.drewN ?_ _ | refine Bl.alloc ?_ _)), (by repeat (first | exact BP | refine Bl.drew ?_ | refine Bl.drewN ?_ _ | refine Bl.alloc ?_ _)), Q0.of_bl (by repeat (first | exact (Bl.refl _) | refine Bl.drew ?_ | refine Bl.drewN ?_ _ | refine Bl.alloc ?_ _)), Q1.of_bl (by repeat (first | exact (Bl.refl _) | refine Bl.drew ?_ | refine Bl.drewN ?_ _ | refine Bl.alloc ?_ _))⟩
          case measure => simp [intOf]; omega
        · rw [htw] at HT
          clear htw
          go_wp2_with (go_quiet ((go_at_call 14; first | with_reducible exact quiet_eq (E0.out _ ((Bl.refl _).drewN _)) | with_reducible exact quiet_eq2 (E0.out _ ((Bl.refl _).drewN _)) | with_reducible exact quiet_eq (E1.out _ ((Bl.refl _).drewN _)) | with_reducible exact quiet_eq2 (E1.out _ ((Bl.refl _).drewN _)) | with_reducible exact quiet_eq2 (E1.out _ (((Bl.refl _).drewN _).drewN _)))))
          go_roundw
          case rel => exact ⟨k + 1, by omega, by rw [HT.out]; simp, by go_num, (by repeat (first | exact hB | refine Bl.drew ?_ | refine Bl.drewN ?_ _ | refine Bl.alloc ?_ _)), (by repeat (first | exact BP | refine Bl.drew ?_ | refine Bl.drewN ?_ _ | refine Bl.alloc ?_ _)), Q0.of_bl (by repeat (first | exact (Bl.refl _) | refine Bl.drew ?_ | refine Bl.drewN ?_ _ | refine Bl.alloc ?_ _)), Q1.of_bl (by repeat (first | exact (Bl.refl _) | refine Bl.drew ?_ | refine Bl.drewN ?_ _ | refine Bl.alloc ?_ _))⟩
          case measure => simp [intOf]; omega
      | some q =>
        obtain ⟨hq, -⟩ := plE_some hpl
        have hle := o1.2 q hpl
        rw [getD_get L default q hq] at hle
        have hlt2 : ¬ eA L[q] < eA l[k] := by omega
        obtain ⟨a2, c2, e2, -, hA2⟩ := HPn.out
        cases e2
        obtain ⟨g2, o2, hao2, hg2, -, -, -, h42, -⟩ := hA2 q hq
        subst hao2
        have x42 := (BP.cells.1 g2 _ hg2).trans h42
        have q0 : ¬ ((q : Int) < 0) := by omega
        have q0' : (0 : Int) ≤ (q : Int) := by omega
        rw [plI_some hpl] at E1
        clear o1 hpl hle h42 hA2
        cases htw : twB l k
        · rw [htw] at HT
          clear htw
          go_wp2_with (go_quiet ((go_at_call 14; first | with_reducible exact quiet_eq (E0.out _ ((Bl.refl _).drewN _)) | with_reducible exact quiet_eq2 (E0.out _ ((Bl.refl _).drewN _)) | with_reducible exact quiet_eq (E1.out _ ((Bl.refl _).drewN _)) | with_reducible exact quiet_eq2 (E1.out _ ((Bl.refl _).drewN _)) | with_reducible exact quiet_eq2 (E1.out _ (((Bl.refl _).drewN _).drewN _)))))
          go_roundw
          case rel => exact ⟨k + 1, by omega, by rw [HT.out]; simp, by go_num, (by repeat (first | exact hB | refine Bl.drew ?_ | refine Bl.drewN ?_ _ | refine Bl.alloc ?_ _)), (by repeat (first | exact BP | refine Bl.drew ?_ | refine Bl.drewN ?_ _ | refine Bl.alloc ?_ _)), Q0.of_bl (by repeat (first | exact (Bl.refl _) | refine Bl.drew ?_ | refine Bl.drewN ?_ _ | refine Bl.alloc ?_ _)), Q1.of_bl (by repeat (first | exact (Bl.refl _) | refine Bl.drew ?_ | refine Bl.drewN ?_ _ | refine Bl.alloc ?_ _))⟩
          case measure => simp [intOf]; omega
        · rw [htw] at HT
          clear htw
          go_wp2_with (go_quiet ((go_at_call 14; first | with_reducible exact quiet_eq (E0.out _ ((Bl.refl _).drewN _)) | with_reducible exact quiet_eq2 (E0.out _ ((Bl.refl _).drewN _)) | with_reducible exact quiet_eq (E1.out _ ((Bl.refl _).drewN _)) | with_reducible exact quiet_eq2 (E1.out _ ((Bl.refl _).drewN _)) | with_reducible exact quiet_eq2 (E1.out _ (((Bl.refl _).drewN _).drewN _)))))
          go_roundw
          case rel => exact ⟨k + 1, by omega, by rw [HT.out]; simp, by go_num, (by repeat (first | exact hB | refine Bl.drew ?_ | refine Bl.drewN ?_ _ | refine Bl.alloc ?_ _)), (by repeat (first | exact BP | refine Bl.drew ?_ | refine Bl.drewN ?_ _ | refine Bl.alloc ?_ _)), Q0.of_bl (by repeat (first | exact (Bl.refl _) | refine Bl.drew ?_ | refine Bl.drewN ?_ _ | refine Bl.alloc ?_ _)), Q1.of_bl (by repeat (first | exact (Bl.refl _) | refine Bl.drew ?_ | refine Bl.drewN ?_ _ | refine Bl.alloc ?_ _))⟩
          case measure => simp [intOf]; omega
    · have hkl : k = l.length := by omega
      subst hkl
      cases htw : twB l l.length
      · have PT2 := Lib.hid (HPT.out (twB_ids htw))
        clear htw
        go_wp2_with (first | (go_at_call 11; (with_reducible refine (CH.out _ _ ?_ ?_ ?_).mono ?_); (exact hE.of_bl (by repeat (first | exact hB | refine Bl.drew ?_ | refine Bl.drewN ?_ _ | refine Bl.alloc ?_ _))); (exact hM.of_bl (by repeat (first | exact hB | refine Bl.drew ?_ | refine Bl.drewN ?_ _ | refine Bl.alloc ?_ _))); (exact HP.out.of_bl (by repeat (first | exact BP | refine Bl.drew ?_ | refine Bl.drewN ?_ _ | refine Bl.alloc ?_ _))); rintro e wC ⟨rfl, hbC⟩; replace BP : Bl wP wC := Bl.trans (by repeat (first | exact BP | refine Bl.drew ?_ | refine Bl.drewN ?_ _ | refine Bl.alloc ?_ _)) hbC; replace hB : Bl w wC := Bl.trans (by repeat (first | exact hB | refine Bl.drew ?_ | refine Bl.drewN ?_ _ | refine Bl.alloc ?_ _)) hbC; replace Q0 := Q0.of_bl (Bl.trans (by repeat (first | exact (Bl.refl _) | refine Bl.drew ?_ | refine Bl.drewN ?_ _ | refine Bl.alloc ?_ _)) hbC); replace Q1 := Q1.of_bl (Bl.trans (by repeat (first | exact (Bl.refl _) | refine Bl.drew ?_ | refine Bl.drewN ?_ _ | refine Bl.alloc ?_ _)) hbC); obtain ⟨lQ0, q0a, q0b⟩ := id Q0; obtain ⟨lQ1, q1a, q1b⟩ := id Q1; have hC1 := True.intro) | (go_at_call 21; (with_reducible refine (ST.out _ _ _ ?_ ?_).mono ?_); (exact (shs_sts HP.out).of_bl (by repeat (first | exact BP | refine Bl.drew ?_ | refine Bl.drewN ?_ _ | refine Bl.alloc ?_ _))); (exact (shs_sts HS.out).of_bl (by repeat (first | exact hB | refine Bl.drew ?_ | refine Bl.drewN ?_ _ | refine Bl.alloc ?_ _))); rintro e w' ⟨rfl, nT, rfl⟩) | (go_at_call 13; (with_reducible refine (PT2.out _ _ ?_ ?_ ?_ ?_).mono ?_); (exact hE.of_bl (by repeat (first | exact hB | refine Bl.drew ?_ | refine Bl.drewN ?_ _ | refine Bl.alloc ?_ _))); (exact hM.of_bl (by repeat (first | exact hB | refine Bl.drew ?_ | refine Bl.drewN ?_ _ | refine Bl.alloc ?_ _))); (exact HP.out.of_bl (by repeat (first | exact BP | refine Bl.drew ?_ | refine Bl.drewN ?_ _ | refine Bl.alloc ?_ _))); (exact HAl.out.of_bl (by repeat (first | exact hB | refine Bl.drew ?_ | refine Bl.drewN ?_ _ | refine Bl.alloc ?_ _))); rintro e wR ⟨svR, rfl, hSR, hbR⟩; replace BP : Bl wP wR := Bl.trans (by repeat (first | exact BP | refine Bl.drew ?_ | refine Bl.drewN ?_ _ | refine Bl.alloc ?_ _)) hbR; replace hB : Bl w wR := Bl.trans (by repeat (first | exact hB | refine Bl.drew ?_ | refine Bl.drewN ?_ _ | refine Bl.alloc ?_ _)) hbR; replace Q0 := Q0.of_bl (Bl.trans (by repeat (first | exact (Bl.refl _) | refine Bl.drew ?_ | refine Bl.drewN ?_ _ | refine Bl.alloc ?_ _)) hbR); replace Q1 := Q1.of_bl (Bl.trans (by repeat (first | exact (Bl.refl _) | refine Bl.drew ?_ | refine Bl.drewN ?_ _ | refine Bl.alloc ?_ _)) hbR); obtain ⟨lQ0, q0a, q0b⟩ := id Q0; obtain ⟨lQ1, q1a, q1b⟩ := id Q1; have HR := Lib.hid hSR; obtain ⟨eR, rR, rfl, hER, hRR⟩ := hSR; obtain ⟨aR, cR, rfl, hcR, -⟩ := hER; obtain ⟨tR, uR, rfl, -, -⟩ := hRR; have BR := Bl.refl wR) | (go_at_call 22; (with_reducible refine (SC.out _ _ _ ?_ ?_).mono ?_); (exact HP.out.of_bl (by repeat (first | exact BP | refine Bl.drew ?_ | refine Bl.drewN ?_ _ | refine Bl.alloc ?_ _))); (exact HR.out.of_bl (by repeat (first | exact BR | refine Bl.drew ?_ | refine Bl.drewN ?_ _ | refine Bl.alloc ?_ _))); rintro e wS ⟨rfl, hbS⟩; replace hB : Bl w wS := Bl.trans (by repeat (first | exact hB | refine Bl.drew ?_ | refine Bl.drewN ?_ _ | refine Bl.alloc ?_ _)) hbS))
        go_ret
        exact ⟨rfl, (by repeat (first | exact hB | refine Bl.drew ?_ | refine Bl.drewN ?_ _ | refine Bl.alloc ?_ _))⟩
      · clear htw
        go_wp2_with (first | (go_at_call 11; (with_reducible refine (CH.out _ _ ?_ ?_ ?_).mono ?_); (exact hE.of_bl (by repeat (first | exact hB | refine Bl.drew ?_ | refine Bl.drewN ?_ _ | refine Bl.alloc ?_ _))); (exact hM.of_bl (by repeat (first | exact hB | refine Bl.drew ?_ | refine Bl.drewN ?_ _ | refine Bl.alloc ?_ _))); (exact HP.out.of_bl (by repeat (first | exact BP | refine Bl.drew ?_ | refine Bl.drewN ?_ _ | refine Bl.alloc ?_ _))); rintro e wC ⟨rfl, hbC⟩; replace BP : Bl wP wC := Bl.trans (by repeat (first | exact BP | refine Bl.drew ?_ | refine Bl.drewN ?_ _ | refine Bl.alloc ?_ _)) hbC; replace hB : Bl w wC := Bl.trans (by repeat (first | exact hB | refine Bl.drew ?_ | refine Bl.drewN ?_ _ | refine Bl.alloc ?_ _)) hbC; replace Q0 := Q0.of_bl (Bl.trans (by repeat (first | exact (Bl.refl _) | refine Bl.drew ?_ | refine Bl.drewN ?_ _ | refine Bl.alloc ?_ _)) hbC); replace Q1 := Q1.of_bl (Bl.trans (by repeat (first | exact (Bl.refl _) | refine Bl.drew ?_ | refine Bl.drewN ?_ _ | refine Bl.alloc ?_ _)) hbC); obtain ⟨lQ0, q0a, q0b⟩ := id Q0; obtain ⟨lQ1, q1a, q1b⟩ := id Q1; have hC1 := True.intro) | (go_at_call 21; (with_reducible refine (ST.out _ _ _ ?_ ?_).mono ?_); (exact (shs_sts HP.out).of_bl (by repeat (first | exact BP | refine Bl.drew ?_ | refine Bl.drewN ?_ _ | refine Bl.alloc ?_ _))); (exact (shs_sts HS.out).of_bl (by repeat (first | exact hB | refine Bl.drew ?_ | refine Bl.drewN ?_ _ | refine Bl.alloc ?_ _))); rintro e w' ⟨rfl, nT, rfl⟩))
        go_ret
        exact ⟨rfl, (by repeat (first | exact hB | refine Bl.drew ?_ | refine Bl.drewN ?_ _ | refine Bl.alloc ?_ _))⟩
theorem once_c (s : Shf) (v va : Value) (l : List Ent) (hI : ∀ x ∈ s.1, (eI x).length ≤ 9223372036854775807) (hl : l.length ≤ 9223372036854775807) (w : World) (hE : ES w) (hM : ML w) (hS : ShS w v s) (hA : EnS w va l) :
    Calls Tryz.prog 6 #[v, va] w fun e w' => e = .returned (.bool true) ∧ Bl w w' := by
  by_cases hp : putC s l = 0
  · exact once_ok s v va l hI hl hp w hE hM hS hA
  · exact once_no s v va l hI hl hp w hE hM hS hA
end Go.Proofs.YthnpljkekhieiaaGreatDoor

/- Shelves: the law ShelfMarks. · Shelves that are handed in: what the row's reading gives. -/
import Derived.Test.YthnpljkekhieiaaGreatDoorShAh
import Derived.Test.YthnpljkekhieiaaGreatDoorGrpJ
namespace Go.Proofs.YthnpljkekhieiaaGreatDoor
open Go.RowKit

theorem shs_ens {w : World} {ve vr : Value} {s : Shf} (h : ShS w (.agg #[ve, vr]) s) : EnS w ve s.1 := by
  obtain ⟨_, _, e, h, -⟩ := h
  cases e
  exact h
theorem shs_sts {w : World} {ve vr : Value} {s : Shf} (h : ShS w (.agg #[ve, vr]) s) : StS w vr s.2 := by
  obtain ⟨_, _, e, -, h⟩ := h
  cases e
  exact h
set_option maxRecDepth 100000 in
set_option maxHeartbeats 4000000 in
theorem marks_no (s : Shf) (v : Value) (i : Nm) (hI : ∀ x ∈ s.1, (eI x).length ≤ 9223372036854775807) (hm : mkC s i true ≠ 0) (w : World) (hE : ES w) (hM : ML w) (hS : ShS w v s) :
    Calls Tryz.prog 3 #[v, .string ⟨i.toArray⟩] w fun e w' => e = .returned (.bool true) ∧ Bl w w' := by
  have BG := Lib.hid (fun W h1 h2 => shBegun_c W h1 h2)
  have MK1 := Lib.hid (fun W h1 h2 h3 => MarkS_c s v i true hI W h1 h2 h3)
  obtain ⟨C, hC⟩ : ∃ C, C = mkC s i true := ⟨_, rfl⟩
  have hms : mkS s i true = ([], []) := by unfold mkS; rw [if_neg hm]
  rw [← hC, hms] at MK1
  rw [← hC] at hm
  have HS := Lib.hid hS
  obtain ⟨ve, vr, rfl, hEn, hRd⟩ := hS
  obtain ⟨ao, cap, rfl, hcap, -⟩ := hEn
  obtain ⟨ar, cr, rfl, hcr, -⟩ := hRd
  have Q0 := B2.new w (.slice ao s.1.length cap) (.slice ar s.2.length cr) 25
  have hB := Bl.refl w
  clear hC hms
  go_enter Tryz.func3, Tryz.ntmps3
  go_wp2_with (first | (go_at_call 7; (with_reducible refine (BG.out _ ?_ ?_).mono ?_); (exact hE.of_bl (by repeat (first | exact hB | refine Bl.drew ?_ | refine Bl.drewN ?_ _ | refine Bl.alloc ?_ _))); (exact hM.of_bl (by repeat (first | exact hB | refine Bl.drew ?_ | refine Bl.drewN ?_ _ | refine Bl.alloc ?_ _))); rintro e wG ⟨rfl, hbG⟩; replace hB : Bl w wG := Bl.trans (by repeat (first | exact hB | refine Bl.drew ?_ | refine Bl.drewN ?_ _ | refine Bl.alloc ?_ _)) hbG; replace Q0 := Q0.of_bl (Bl.trans (by repeat (first | exact (Bl.refl _) | refine Bl.drew ?_ | refine Bl.drewN ?_ _ | refine Bl.alloc ?_ _)) hbG); obtain ⟨lQ0, q0a, q0b⟩ := id Q0) | (go_at_call 8; (with_reducible refine (MK1.out _ ?_ ?_ ?_).mono ?_); (exact hE.of_bl (by repeat (first | exact hB | refine Bl.drew ?_ | refine Bl.drewN ?_ _ | refine Bl.alloc ?_ _))); (exact hM.of_bl (by repeat (first | exact hB | refine Bl.drew ?_ | refine Bl.drewN ?_ _ | refine Bl.alloc ?_ _))); (exact HS.out.of_bl (by repeat (first | exact hB | refine Bl.drew ?_ | refine Bl.drewN ?_ _ | refine Bl.alloc ?_ _))); rintro e wM ⟨svM, rfl, hSM, hbM⟩; replace hB : Bl w wM := Bl.trans (by repeat (first | exact hB | refine Bl.drew ?_ | refine Bl.drewN ?_ _ | refine Bl.alloc ?_ _)) hbM; replace Q0 := Q0.of_bl (Bl.trans (by repeat (first | exact (Bl.refl _) | refine Bl.drew ?_ | refine Bl.drewN ?_ _ | refine Bl.alloc ?_ _)) hbM); obtain ⟨lQ0, q0a, q0b⟩ := id Q0; have HM := Lib.hid hSM; obtain ⟨eM, rM, rfl, hEM, hRM⟩ := hSM; obtain ⟨aM, cM, rfl, hcM, -⟩ := hEM; obtain ⟨tM, uM, rfl, -, -⟩ := hRM; have BM := Bl.refl wM))
  go_ret
  exact ⟨rfl, hB.alloc _⟩
set_option maxRecDepth 100000 in
set_option maxHeartbeats 8000000 in
theorem marks_ok (s : Shf) (v : Value) (i : Nm) (hI : ∀ x ∈ s.1, (eI x).length ≤ 9223372036854775807) (hm : mkC s i true = 0) (w : World) (hE : ES w) (hM : ML w) (hS : ShS w v s) :
    Calls Tryz.prog 3 #[v, .string ⟨i.toArray⟩] w fun e w' => e = .returned (.bool true) ∧ Bl w w' := by
  obtain ⟨c1, c2, c3, c4, c5, c6⟩ := marks hm
  have hs20 : s.1.length ≤ 20 := ((mkC_iff s i true).1 hm).1.1
  have BG := Lib.hid (fun W h1 h2 => shBegun_c W h1 h2)
  obtain ⟨R1, hR1⟩ : ∃ R, R = mkR s i true := ⟨_, rfl⟩
  rw [← hR1] at c1 c2 c3 c4 c5 c6
  obtain ⟨R2, hR2⟩ : ∃ R, R = mkR (s.1, R1) i false := ⟨_, rfl⟩
  rw [← hR2] at c3 c4 c6
  obtain ⟨DD, hDD⟩ : ∃ D, D = drL (s.1, R1) := ⟨_, rfl⟩
  have hU1 : unL (s.1, R1) = DD.map eI := by rw [hDD]; rfl
  obtain ⟨U1, hU⟩ : ∃ U, U = unL (s.1, R1) := ⟨_, rfl⟩
  obtain ⟨U2, hU2⟩ : ∃ U, U = unL (s.1, R2) := ⟨_, rfl⟩
  rw [← hU] at c4 c5 hU1
  rw [← hU2] at c4 c6
  have hDl : DD.length = U1.length := by rw [hU1, List.length_map]
  have HDE := Lib.hid (show ∀ k (h : k < DD.length) (h' : k < U1.length), eI DD[k] = U1[k] from fun k h h' => by simp only [hU1, List.getElem_map])
  have hDs : DD.length ≤ s.1.length := by rw [hDD]; exact List.length_filter_le _ _
  have MK1 := Lib.hid (fun W h1 h2 h3 => MarkS_c s v i true hI W h1 h2 h3)
  rw [hm, show mkS s i true = (s.1, R1) by unfold mkS; rw [if_pos hm, hR1]] at MK1
  have MK2 := Lib.hid (fun va W h1 h2 h3 => MarkS_c (s.1, R1) va i false hI W h1 h2 h3)
  rw [c2, show mkS (s.1, R1) i false = (s.1, R2) by unfold mkS; rw [if_pos c2, hR2]] at MK2
  have UN1 := Lib.hid (fun va W h1 h2 h3 => UnreadS_c (s.1, R1) va hI W h1 h2 h3)
  rw [c1, show unS (s.1, R1) = U1 by unfold unS; rw [if_pos c1, hU]] at UN1
  have UN2 := Lib.hid (fun va W h1 h2 h3 => UnreadS_c (s.1, R2) va hI W h1 h2 h3)
  rw [c3, show unS (s.1, R2) = U2 by unfold unS; rw [if_pos c3, hU2]] at UN2
  have DR := Lib.hid (fun va W h1 h2 h3 => DropS_c (s.1, R1) va hI W h1 h2 h3)
  rw [c1, show drS (s.1, R1) = (DD, R1) by unfold drS; rw [if_pos c1, hDD], show drN (s.1, R1) = (s.1.length : Int) - DD.length by unfold drN; rw [if_pos c1, hDD]] at DR
  have CH1 := Lib.hid (fun va W h1 h2 h3 => checkS_c (s.1, R1) va hI W h1 h2 h3)
  rw [c1] at CH1
  have CH2 := Lib.hid (fun va W h1 h2 h3 => checkS_c (s.1, R2) va hI W h1 h2 h3)
  rw [c3] at CH2
  have C5 := Lib.hid c5
  have C6 := Lib.hid c6
  have hD20 : DD.length ≤ 20 := by omega
  have hU20 : U1.length ≤ 20 := by omega
  have hU21 : U2.length ≤ 21 := by omega
  have HS := Lib.hid hS
  obtain ⟨ve, vr, rfl, hEn, hRd⟩ := hS
  obtain ⟨ao, cap, rfl, hcap, -⟩ := hEn
  obtain ⟨ar, cr, rfl, hcr, -⟩ := hRd
  have Q0 := B2.new w (.slice ao s.1.length cap) (.slice ar s.2.length cr) 25
  have hB := Bl.refl w
  have hi4 : ((U2.length : Int) != (U1.length : Int) + 1) = false := by rw [bne_eq_false_iff_eq]; omega
  have hi5 : (((s.1.length : Int) - (DD.length : Int)) != ((s.1.length : Int) - (U1.length : Int))) = false := by rw [bne_eq_false_iff_eq]; omega
  have hi6 : ((DD.length : Int) != (U1.length : Int)) = false := by rw [bne_eq_false_iff_eq]; omega
  have HDL := Lib.hid hDl
  have HC4 := Lib.hid c4
  clear hR1 hR2 hDD hU hU2 hU1 c1 c2 c3 c5 c6 hm hI hDl c4 hDs
  go_enter Tryz.func3, Tryz.ntmps3
  go_wp2_with (first | (go_at_call 7; (with_reducible refine (BG.out _ ?_ ?_).mono ?_); (exact hE.of_bl (by repeat (first | exact hB | refine Bl.drew ?_ | refine Bl.drewN ?_ _ | refine Bl.alloc ?_ _))); (exact hM.of_bl (by repeat (first | exact hB | refine Bl.drew ?_ | refine Bl.drewN ?_ _ | refine Bl.alloc ?_ _))); rintro e wG ⟨rfl, hbG⟩; replace hB : Bl w wG := Bl.trans (by repeat (first | exact hB | refine Bl.drew ?_ | refine Bl.drewN ?_ _ | refine Bl.alloc ?_ _)) hbG; replace Q0 := Q0.of_bl (Bl.trans (by repeat (first | exact (Bl.refl _) | refine Bl.drew ?_ | refine Bl.drewN ?_ _ | refine Bl.alloc ?_ _)) hbG); obtain ⟨lQ0, q0a, q0b⟩ := id Q0) | (go_at_call 9; have g_BB := BB; (with_reducible refine (UN2.out _ _ ?_ ?_ ?_).mono ?_); (exact hE.of_bl (by repeat (first | exact hB | refine Bl.drew ?_ | refine Bl.drewN ?_ _ | refine Bl.alloc ?_ _))); (exact hM.of_bl (by repeat (first | exact hB | refine Bl.drew ?_ | refine Bl.drewN ?_ _ | refine Bl.alloc ?_ _))); (exact HB.out.of_bl (by repeat (first | exact BB | refine Bl.drew ?_ | refine Bl.drewN ?_ _ | refine Bl.alloc ?_ _))); rintro e wV ⟨vV, rfl, hSV, hbV⟩; replace BM : Bl wM wV := Bl.trans (by repeat (first | exact BM | refine Bl.drew ?_ | refine Bl.drewN ?_ _ | refine Bl.alloc ?_ _)) hbV; replace BU : Bl wU wV := Bl.trans (by repeat (first | exact BU | refine Bl.drew ?_ | refine Bl.drewN ?_ _ | refine Bl.alloc ?_ _)) hbV; replace BB : Bl wB wV := Bl.trans (by repeat (first | exact BB | refine Bl.drew ?_ | refine Bl.drewN ?_ _ | refine Bl.alloc ?_ _)) hbV; replace hB : Bl w wV := Bl.trans (by repeat (first | exact hB | refine Bl.drew ?_ | refine Bl.drewN ?_ _ | refine Bl.alloc ?_ _)) hbV; replace Q0 := Q0.of_bl (Bl.trans (by repeat (first | exact (Bl.refl _) | refine Bl.drew ?_ | refine Bl.drewN ?_ _ | refine Bl.alloc ?_ _)) hbV); replace Q1 := Q1.of_bl (Bl.trans (by repeat (first | exact (Bl.refl _) | refine Bl.drew ?_ | refine Bl.drewN ?_ _ | refine Bl.alloc ?_ _)) hbV); have Q2 := (B2.new wB (.slice aB s.1.length cB) (.slice tB R2.length uB) 25).of_bl hbV; obtain ⟨lQ0, q0a, q0b⟩ := id Q0; obtain ⟨lQ1, q1a, q1b⟩ := id Q1; obtain ⟨lQ2, q2a, q2b⟩ := id Q2; have HV := Lib.hid hSV; obtain ⟨aV, cV, rfl, hcV, -⟩ := hSV; have BV := Bl.refl wV) | (go_at_call 9; have g_BM := BM; (with_reducible refine (UN1.out _ _ ?_ ?_ ?_).mono ?_); (exact hE.of_bl (by repeat (first | exact hB | refine Bl.drew ?_ | refine Bl.drewN ?_ _ | refine Bl.alloc ?_ _))); (exact hM.of_bl (by repeat (first | exact hB | refine Bl.drew ?_ | refine Bl.drewN ?_ _ | refine Bl.alloc ?_ _))); (exact HM.out.of_bl (by repeat (first | exact BM | refine Bl.drew ?_ | refine Bl.drewN ?_ _ | refine Bl.alloc ?_ _))); rintro e wU ⟨vU, rfl, hSU, hbU⟩; replace BM : Bl wM wU := Bl.trans (by repeat (first | exact BM | refine Bl.drew ?_ | refine Bl.drewN ?_ _ | refine Bl.alloc ?_ _)) hbU; replace hB : Bl w wU := Bl.trans (by repeat (first | exact hB | refine Bl.drew ?_ | refine Bl.drewN ?_ _ | refine Bl.alloc ?_ _)) hbU; replace Q0 := Q0.of_bl (Bl.trans (by repeat (first | exact (Bl.refl _) | refine Bl.drew ?_ | refine Bl.drewN ?_ _ | refine Bl.alloc ?_ _)) hbU); have Q1 := (B2.new wM (.slice aM s.1.length cM) (.slice tM R1.length uM) 25).of_bl hbU; obtain ⟨lQ0, q0a, q0b⟩ := id Q0; obtain ⟨lQ1, q1a, q1b⟩ := id Q1; have HU := Lib.hid hSU; obtain ⟨aU, cU, rfl, hcU, -⟩ := hSU; have BU := Bl.refl wU) | (go_at_call 8; have g_BU := BU; (with_reducible refine (MK2.out _ _ ?_ ?_ ?_).mono ?_); (exact hE.of_bl (by repeat (first | exact hB | refine Bl.drew ?_ | refine Bl.drewN ?_ _ | refine Bl.alloc ?_ _))); (exact hM.of_bl (by repeat (first | exact hB | refine Bl.drew ?_ | refine Bl.drewN ?_ _ | refine Bl.alloc ?_ _))); (exact HM.out.of_bl (by repeat (first | exact BM | refine Bl.drew ?_ | refine Bl.drewN ?_ _ | refine Bl.alloc ?_ _))); rintro e wB ⟨svB, rfl, hSB, hbB⟩; replace BM : Bl wM wB := Bl.trans (by repeat (first | exact BM | refine Bl.drew ?_ | refine Bl.drewN ?_ _ | refine Bl.alloc ?_ _)) hbB; replace BU : Bl wU wB := Bl.trans (by repeat (first | exact BU | refine Bl.drew ?_ | refine Bl.drewN ?_ _ | refine Bl.alloc ?_ _)) hbB; replace hB : Bl w wB := Bl.trans (by repeat (first | exact hB | refine Bl.drew ?_ | refine Bl.drewN ?_ _ | refine Bl.alloc ?_ _)) hbB; replace Q0 := Q0.of_bl (Bl.trans (by repeat (first | exact (Bl.refl _) | refine Bl.drew ?_ | refine Bl.drewN ?_ _ | refine Bl.alloc ?_ _)) hbB); replace Q1 := Q1.of_bl (Bl.trans (by repeat (first | exact (Bl.refl _) | refine Bl.drew ?_ | refine Bl.drewN ?_ _ | refine Bl.alloc ?_ _)) hbB); obtain ⟨lQ0, q0a, q0b⟩ := id Q0; obtain ⟨lQ1, q1a, q1b⟩ := id Q1; have HB := Lib.hid hSB; obtain ⟨eB, rB, rfl, hEB, hRB⟩ := hSB; obtain ⟨aB, cB, rfl, hcB, -⟩ := hEB; obtain ⟨tB, uB, rfl, -, -⟩ := hRB; have BB := Bl.refl wB) | (go_at_call 8; (with_reducible refine (MK1.out _ ?_ ?_ ?_).mono ?_); (exact hE.of_bl (by repeat (first | exact hB | refine Bl.drew ?_ | refine Bl.drewN ?_ _ | refine Bl.alloc ?_ _))); (exact hM.of_bl (by repeat (first | exact hB | refine Bl.drew ?_ | refine Bl.drewN ?_ _ | refine Bl.alloc ?_ _))); (exact HS.out.of_bl (by repeat (first | exact hB | refine Bl.drew ?_ | refine Bl.drewN ?_ _ | refine Bl.alloc ?_ _))); rintro e wM ⟨svM, rfl, hSM, hbM⟩; replace hB : Bl w wM := Bl.trans (by repeat (first | exact hB | refine Bl.drew ?_ | refine Bl.drewN ?_ _ | refine Bl.alloc ?_ _)) hbM; replace Q0 := Q0.of_bl (Bl.trans (by repeat (first | exact (Bl.refl _) | refine Bl.drew ?_ | refine Bl.drewN ?_ _ | refine Bl.alloc ?_ _)) hbM); obtain ⟨lQ0, q0a, q0b⟩ := id Q0; have HM := Lib.hid hSM; obtain ⟨eM, rM, rfl, hEM, hRM⟩ := hSM; obtain ⟨aM, cM, rfl, hcM, -⟩ := hEM; obtain ⟨tM, uM, rfl, -, -⟩ := hRM; have BM := Bl.refl wM) | (go_at_call 10; have g_BV := BV; (with_reducible refine (DR.out _ _ ?_ ?_ ?_).mono ?_); (exact hE.of_bl (by repeat (first | exact hB | refine Bl.drew ?_ | refine Bl.drewN ?_ _ | refine Bl.alloc ?_ _))); (exact hM.of_bl (by repeat (first | exact hB | refine Bl.drew ?_ | refine Bl.drewN ?_ _ | refine Bl.alloc ?_ _))); (exact HM.out.of_bl (by repeat (first | exact BM | refine Bl.drew ?_ | refine Bl.drewN ?_ _ | refine Bl.alloc ?_ _))); rintro e wD ⟨svD, rfl, hSD, hbD⟩; replace BM : Bl wM wD := Bl.trans (by repeat (first | exact BM | refine Bl.drew ?_ | refine Bl.drewN ?_ _ | refine Bl.alloc ?_ _)) hbD; replace BU : Bl wU wD := Bl.trans (by repeat (first | exact BU | refine Bl.drew ?_ | refine Bl.drewN ?_ _ | refine Bl.alloc ?_ _)) hbD; replace BB : Bl wB wD := Bl.trans (by repeat (first | exact BB | refine Bl.drew ?_ | refine Bl.drewN ?_ _ | refine Bl.alloc ?_ _)) hbD; replace BV : Bl wV wD := Bl.trans (by repeat (first | exact BV | refine Bl.drew ?_ | refine Bl.drewN ?_ _ | refine Bl.alloc ?_ _)) hbD; replace hB : Bl w wD := Bl.trans (by repeat (first | exact hB | refine Bl.drew ?_ | refine Bl.drewN ?_ _ | refine Bl.alloc ?_ _)) hbD; replace Q0 := Q0.of_bl (Bl.trans (by repeat (first | exact (Bl.refl _) | refine Bl.drew ?_ | refine Bl.drewN ?_ _ | refine Bl.alloc ?_ _)) hbD); replace Q1 := Q1.of_bl (Bl.trans (by repeat (first | exact (Bl.refl _) | refine Bl.drew ?_ | refine Bl.drewN ?_ _ | refine Bl.alloc ?_ _)) hbD); replace Q2 := Q2.of_bl (Bl.trans (by repeat (first | exact (Bl.refl _) | refine Bl.drew ?_ | refine Bl.drewN ?_ _ | refine Bl.alloc ?_ _)) hbD); obtain ⟨lQ0, q0a, q0b⟩ := id Q0; obtain ⟨lQ1, q1a, q1b⟩ := id Q1; obtain ⟨lQ2, q2a, q2b⟩ := id Q2; have HD := Lib.hid hSD; obtain ⟨eD, rD, rfl, hED, hRD⟩ := hSD; obtain ⟨aD, cD, rfl, hcD, -⟩ := hED; obtain ⟨tD, uD, rfl, -, -⟩ := hRD; have BD := Bl.refl wD) | (go_at_call 11; have g_hC1 := hC1; (with_reducible refine (CH2.out _ _ ?_ ?_ ?_).mono ?_); (exact hE.of_bl (by repeat (first | exact hB | refine Bl.drew ?_ | refine Bl.drewN ?_ _ | refine Bl.alloc ?_ _))); (exact hM.of_bl (by repeat (first | exact hB | refine Bl.drew ?_ | refine Bl.drewN ?_ _ | refine Bl.alloc ?_ _))); (exact HB.out.of_bl (by repeat (first | exact BB | refine Bl.drew ?_ | refine Bl.drewN ?_ _ | refine Bl.alloc ?_ _))); rintro e wE ⟨rfl, hbC⟩; replace BM : Bl wM wE := Bl.trans (by repeat (first | exact BM | refine Bl.drew ?_ | refine Bl.drewN ?_ _ | refine Bl.alloc ?_ _)) hbC; replace BU : Bl wU wE := Bl.trans (by repeat (first | exact BU | refine Bl.drew ?_ | refine Bl.drewN ?_ _ | refine Bl.alloc ?_ _)) hbC; replace BB : Bl wB wE := Bl.trans (by repeat (first | exact BB | refine Bl.drew ?_ | refine Bl.drewN ?_ _ | refine Bl.alloc ?_ _)) hbC; replace BV : Bl wV wE := Bl.trans (by repeat (first | exact BV | refine Bl.drew ?_ | refine Bl.drewN ?_ _ | refine Bl.alloc ?_ _)) hbC; replace BD : Bl wD wE := Bl.trans (by repeat (first | exact BD | refine Bl.drew ?_ | refine Bl.drewN ?_ _ | refine Bl.alloc ?_ _)) hbC; replace hB : Bl w wE := Bl.trans (by repeat (first | exact hB | refine Bl.drew ?_ | refine Bl.drewN ?_ _ | refine Bl.alloc ?_ _)) hbC; replace Q0 := Q0.of_bl (Bl.trans (by repeat (first | exact (Bl.refl _) | refine Bl.drew ?_ | refine Bl.drewN ?_ _ | refine Bl.alloc ?_ _)) hbC); replace Q1 := Q1.of_bl (Bl.trans (by repeat (first | exact (Bl.refl _) | refine Bl.drew ?_ | refine Bl.drewN ?_ _ | refine Bl.alloc ?_ _)) hbC); replace Q2 := Q2.of_bl (Bl.trans (by repeat (first | exact (Bl.refl _) | refine Bl.drew ?_ | refine Bl.drewN ?_ _ | refine Bl.alloc ?_ _)) hbC); replace Q3 := Q3.of_bl (Bl.trans (by repeat (first | exact (Bl.refl _) | refine Bl.drew ?_ | refine Bl.drewN ?_ _ | refine Bl.alloc ?_ _)) hbC); obtain ⟨lQ0, q0a, q0b⟩ := id Q0; obtain ⟨lQ1, q1a, q1b⟩ := id Q1; obtain ⟨lQ2, q2a, q2b⟩ := id Q2; obtain ⟨lQ3, q3a, q3b⟩ := id Q3; have hC2 := True.intro) | (go_at_call 11; have g_BD := BD; (with_reducible refine (CH1.out _ _ ?_ ?_ ?_).mono ?_); (exact hE.of_bl (by repeat (first | exact hB | refine Bl.drew ?_ | refine Bl.drewN ?_ _ | refine Bl.alloc ?_ _))); (exact hM.of_bl (by repeat (first | exact hB | refine Bl.drew ?_ | refine Bl.drewN ?_ _ | refine Bl.alloc ?_ _))); (exact HM.out.of_bl (by repeat (first | exact BM | refine Bl.drew ?_ | refine Bl.drewN ?_ _ | refine Bl.alloc ?_ _))); rintro e wC ⟨rfl, hbC⟩; replace BM : Bl wM wC := Bl.trans (by repeat (first | exact BM | refine Bl.drew ?_ | refine Bl.drewN ?_ _ | refine Bl.alloc ?_ _)) hbC; replace BU : Bl wU wC := Bl.trans (by repeat (first | exact BU | refine Bl.drew ?_ | refine Bl.drewN ?_ _ | refine Bl.alloc ?_ _)) hbC; replace BB : Bl wB wC := Bl.trans (by repeat (first | exact BB | refine Bl.drew ?_ | refine Bl.drewN ?_ _ | refine Bl.alloc ?_ _)) hbC; replace BV : Bl wV wC := Bl.trans (by repeat (first | exact BV | refine Bl.drew ?_ | refine Bl.drewN ?_ _ | refine Bl.alloc ?_ _)) hbC; replace BD : Bl wD wC := Bl.trans (by repeat (first | exact BD | refine Bl.drew ?_ | refine Bl.drewN ?_ _ | refine Bl.alloc ?_ _)) hbC; replace hB : Bl w wC := Bl.trans (by repeat (first | exact hB | refine Bl.drew ?_ | refine Bl.drewN ?_ _ | refine Bl.alloc ?_ _)) hbC; replace Q0 := Q0.of_bl (Bl.trans (by repeat (first | exact (Bl.refl _) | refine Bl.drew ?_ | refine Bl.drewN ?_ _ | refine Bl.alloc ?_ _)) hbC); replace Q1 := Q1.of_bl (Bl.trans (by repeat (first | exact (Bl.refl _) | refine Bl.drew ?_ | refine Bl.drewN ?_ _ | refine Bl.alloc ?_ _)) hbC); replace Q2 := Q2.of_bl (Bl.trans (by repeat (first | exact (Bl.refl _) | refine Bl.drew ?_ | refine Bl.drewN ?_ _ | refine Bl.alloc ?_ _)) hbC); have Q3 := (B2.new wD (.slice aD DD.length cD) (.slice tD R1.length uD) 25).of_bl hbC; obtain ⟨lQ0, q0a, q0b⟩ := id Q0; obtain ⟨lQ1, q1a, q1b⟩ := id Q1; obtain ⟨lQ2, q2a, q2b⟩ := id Q2; obtain ⟨lQ3, q3a, q3b⟩ := id Q3; have hC1 := True.intro))
  have HDn := Lib.hid (shs_ens (HD.out.of_bl BD))
  have HMn := Lib.hid (shs_ens (HM.out.of_bl BM))
  have HSn := Lib.hid (shs_ens (HS.out.of_bl hB))
  have HUn := Lib.hid (HU.out.of_bl BU)
  have HVn := Lib.hid (HV.out.of_bl BV)
  have SE := Lib.hid (fun W (hh : Bl wE W) => sameE_c s.1 s.1 _ _ (by omega) W (HMn.out.of_bl hh) (HSn.out.of_bl hh))
  rw [show decide (s.1 = s.1) = true by simp] at SE
  have HQ0 := Lib.hid Q0
  have HQ1 := Lib.hid Q1
  have HQ3 := Lib.hid Q3
  clear lQ0 q0a q0b lQ1 q1a q1b lQ2 q2a q2b lQ3 q3a q3b Q0 Q1 Q2 Q3
  go_loopw [17] (fun j wr => ∃ k : Nat, k ≤ U1.length ∧ j = .int .i64 k ∧ Qt wE wr) (fun j _ => U1.length - (intOf j).toNat)
  case atStart => exact ⟨0, Nat.zero_le _, rfl, Qt.refl _⟩
  case round =>
    obtain ⟨k, hk, rfl, hq⟩ := hrel
    obtain ⟨l3, q3a, q3b⟩ := HQ3.out.of_bl hq.bl
    by_cases hlt : k < U1.length
    · have hlt2 : k < DD.length := by have := HDL.out; omega
      have hlt3 : (k : Int) < (DD.length : Int) := by omega
      obtain ⟨a', c', e', -, hA⟩ := HUn.out
      cases e'
      obtain ⟨g, o, hao, hg, h1⟩ := hA k hlt
      subst hao
      obtain ⟨a'', c'', e'', -, hA2⟩ := HDn.out
      cases e''
      obtain ⟨g', o', hao', hg', h2, -, -, -, -⟩ := hA2 k hlt2
      subst hao'
      rw [HDE.out k hlt2 hlt] at h2
      have x1 := (hq.bl.cells.1 g _ hg).trans h1
      have x2 := (hq.bl.cells.1 g' _ hg').trans h2
      have hne : (U1[k] == i) = false := by rw [beq_eq_false_iff_ne]; exact C5.out _ (List.getElem_mem hlt)
      clear h1 h2 hA hA2
      go_wp2_with (go_quiet (fail))
      go_roundw
      case rel => exact ⟨k + 1, by omega, by go_num, hq.drewN _⟩
      case measure => simp [intOf]; omega
    · go_wp2
      obtain ⟨w5, hw5⟩ : ∃ w5, w5 = wr := ⟨wr, rfl⟩
      subst hw5
      clear l3 q3a q3b
      go_loopw [16, 18] (fun sn j wr => ∃ k : Nat, k ≤ U2.length ∧ j = .int .i64 k ∧ sn = .bool (decide (i ∈ U2.take k)) ∧ wr = w5) (fun _ j _ => U2.length - (intOf j).toNat)
      case atStart => exact ⟨0, Nat.zero_le _, rfl, by simp, rfl⟩
      case round =>
        obtain ⟨j, hj, rfl, rfl, rfl⟩ := hrel
        by_cases hlj : j < U2.length
        · obtain ⟨a', c', e', -, hA⟩ := HVn.out
          cases e'
          obtain ⟨g, o, hao, hg, h1⟩ := hA j hlj
          subst hao
          have x1 := (hq.bl.cells.1 g _ hg).trans h1
          have HT := Lib.hid (take_snoc U2 j hlj)
          clear h1 hA
          cases hsn : decide (i ∈ U2.take j)
          · have HSN := Lib.hid (of_decide_eq_false hsn)
            clear hsn
            by_cases he : U2[j] = i
            · have HE := Lib.hid he
              have hbe : (U2[j] == i) = true := by simp [he]
              clear he
              go_wp2
              go_roundw
              case rel => exact ⟨j + 1, by omega, by go_num, by rw [HT.out]; exact congrArg Value.bool (decide_eq_true (by rw [List.mem_append]; exact .inr (by rw [HE.out]; simp))).symm, by trivial⟩
              case measure => simp [intOf]; omega
            · have HE := Lib.hid he
              have hbe : (U2[j] == i) = false := by simpa using he
              clear he
              go_wp2
              go_roundw
              case rel => exact ⟨j + 1, by omega, by go_num, by rw [HT.out]; exact congrArg Value.bool (decide_eq_false (by rw [List.mem_append]; rintro (h | h); exact HSN.out h; exact HE.out (List.mem_singleton.1 h).symm)).symm, by trivial⟩
              case measure => simp [intOf]; omega
          · have HSN := Lib.hid (of_decide_eq_true hsn)
            clear hsn
            go_wp2
            go_roundw
            case rel => exact ⟨j + 1, by omega, by go_num, by rw [HT.out]; exact congrArg Value.bool (decide_eq_true (by rw [List.mem_append]; exact .inl HSN.out)).symm, by trivial⟩
            case measure => simp [intOf]; omega
        · have hdt : decide (i ∈ U2.take j) = true := by rw [List.take_of_length_le (by omega)]; exact decide_eq_true C6.out
          rw [hdt]
          obtain ⟨l0, q0a, q0b⟩ := HQ0.out.of_bl hq.bl
          obtain ⟨l1, q1a, q1b⟩ := HQ1.out.of_bl hq.bl
          clear hdt
          go_wp2_with (go_at_call 12; (with_reducible refine (SE.out _ hq.bl).mono ?_); rintro e w' ⟨rfl, n, rfl⟩)
          go_ret
          exact ⟨rfl, (hB.trans hq.bl).drewN n⟩
theorem marks_c (s : Shf) (v : Value) (i : Nm) (hI : ∀ x ∈ s.1, (eI x).length ≤ 9223372036854775807) (w : World) (hE : ES w) (hM : ML w) (hS : ShS w v s) :
    Calls Tryz.prog 3 #[v, .string ⟨i.toArray⟩] w fun e w' => e = .returned (.bool true) ∧ Bl w w' := by
  by_cases hm : mkC s i true = 0
  · exact marks_ok s v i hI hm w hE hM hS
  · exact marks_no s v i hI hm w hE hM hS
end Go.Proofs.YthnpljkekhieiaaGreatDoor

namespace Go.Proofs.YthnpljkekhieiaaGreatDoor
open Go.RowKit Go.ChangeShapes Go.WideShapes Go.ChangeAt Go.WideElems

section
variable {H : Type} {enc : TypeId × Value → H} {w : World} {sp : Nat → Bool} {held : Bool}
theorem five_of {α : Type} {c : List α} (h : c.length = 5) : ∃ x y z u v, c = [x, y, z, u, v] := by
  match c, h with
  | [x, y, z, u, v], _ => exact ⟨x, y, z, u, v, rfl⟩
theorem entry_of {n : Nat} {c : List Value} {y : DataW H × List MemPlace} (h : DataW.trod enc Tryz.prog w 0 sp held n 36 c = some y) :
    ∃ x : Ent, c = enQ x ∧ (eI x).length ≤ maxLen := by
  obtain ⟨xs, m, _, rfl, hl, hlen, hf⟩ := DataW.trod_struct Tryz.underlying36 h
  have c5 : Tryz.prog.cellsOf 36 = 5 := by kernel_rfl
  rw [c5] at hl
  obtain ⟨x0, x1, x2, x3, x4, rfl⟩ := five_of hl
  match xs, hlen with
  | [y0, y1, y2, y3, y4], _ =>
    have c1 : Tryz.prog.cellsOf 9 = 1 := by kernel_rfl
    have c2 : Tryz.prog.cellsOf 3 = 1 := by kernel_rfl
    have h0 : DataW.trod enc Tryz.prog w 0 sp held m 9 [x0] = some y0 := by
      have h := hf 0 _ rfl
      change DataW.trod enc Tryz.prog w 0 sp held m 9 (List.take (Tryz.prog.cellsOf 9) [x0, x1, x2, x3, x4]) = some y0 at h
      rw [c1] at h
      exact h
    have h1 : DataW.trod enc Tryz.prog w 0 sp held m 9 [x1] = some y1 := by
      have h := hf 1 _ rfl
      change DataW.trod enc Tryz.prog w 0 sp held m 9 (List.take (Tryz.prog.cellsOf 9) [x1, x2, x3, x4]) = some y1 at h
      rw [c1] at h
      exact h
    have h2 : DataW.trod enc Tryz.prog w 0 sp held m 9 [x2] = some y2 := by
      have h := hf 2 _ rfl
      change DataW.trod enc Tryz.prog w 0 sp held m 9 (List.take (Tryz.prog.cellsOf 9) [x2, x3, x4]) = some y2 at h
      rw [c1] at h
      exact h
    have h3 : DataW.trod enc Tryz.prog w 0 sp held m 3 [x3] = some y3 := by
      have h := hf 3 _ rfl
      change DataW.trod enc Tryz.prog w 0 sp held m 3 (List.take (Tryz.prog.cellsOf 3) [x3, x4]) = some y3 at h
      rw [c2] at h
      exact h
    have h4 : DataW.trod enc Tryz.prog w 0 sp held m 9 [x4] = some y4 := by
      have h := hf 4 _ rfl
      change DataW.trod enc Tryz.prog w 0 sp held m 9 (List.take (Tryz.prog.cellsOf 9) [x4]) = some y4 at h
      rw [c1] at h
      exact h
    obtain ⟨s0, e0, -, b0⟩ := DataW.trod_string Tryz.underlying9 h0
    obtain ⟨s1, e1, -, -⟩ := DataW.trod_string Tryz.underlying9 h1
    obtain ⟨s2, e2, -, -⟩ := DataW.trod_string Tryz.underlying9 h2
    obtain ⟨k, e3, -, -⟩ := DataW.trod_int Tryz.underlying3 h3
    obtain ⟨s4, e4, -, -⟩ := DataW.trod_string Tryz.underlying9 h4
    cases e0; cases e1; cases e2; cases e3; cases e4
    refine ⟨(s0.data.toList, s1.data.toList, s2.data.toList, k, s4.data.toList), by simp [enQ, eI, eT, eL, eA, eH], ?_⟩
    show s0.data.toList.length ≤ maxLen
    rw [Array.length_toList]
    exact b0
theorem ents_of {n : Nat} {c : List Value} {y : DataW H × List MemPlace} (h : DataW.trod enc Tryz.prog w 0 sp held n 22 c = some y) :
    ∃ va l, c = [va] ∧ EnS w va l ∧ (∀ x ∈ l, (eI x).length ≤ maxLen) ∧ l.length ≤ maxLen := by
  rcases DataW.trod_slice Tryz.underlying22 h with ⟨rfl, rfl⟩ | ⟨a, len, cap, elems, rest, m, rfl, rfl, rfl, _, hc, hcm, hlen, hel, _, _⟩
  · exact ⟨_, [], rfl, EnS.nil w, (fun x hx => absurd hx (by simp)), Nat.zero_le _⟩
  have c5 : Tryz.prog.cellsOf 36 = 5 := by kernel_rfl
  rw [c5] at hel
  obtain ⟨l, hll, hal⟩ := list_of (α := Ent) (Q := fun i x => (eI x).length ≤ maxLen ∧ ∀ j, j < 5 → w.cell? ((a.add (i * 5)).add j) = (enQ x)[j]?) len (by
    intro i hi
    have h1 := hel i hi
    rw [List.getElem?_eq_getElem (by omega)] at h1
    obtain ⟨cs, h2, h3⟩ := Option.bind_eq_some_iff.1 h1
    obtain ⟨x, rfl, hx⟩ := entry_of h3
    exact ⟨x, hx, (cells_get h2).2⟩)
  refine ⟨_, l, rfl, ⟨some a, cap, by rw [hll], by omega, fun i hi => ?_⟩, fun x hx => ?_, by omega⟩
  · have hq := (hal i hi).2
    have q0 := (hal 0 (by omega)).2 0 (by omega)
    have hs : a.spot = none := by
      have : w.cell? ((a.add (0 * 5)).add 0) = some _ := q0
      have := World.cell?_spot this
      simpa [Addr.add] using this
    have hlt := cell_lt (show w.cell? ((a.add (0 * 5)).add 0) = some _ from q0)
    rw [add_at hs, add_at rfl] at hlt
    simp only [add_at hs, add_at (a := ⟨a.block, _, none⟩) rfl] at hq
    refine ⟨a.block, a.off, ?_, hlt, hq 0 (by omega), hq 1 (by omega), hq 2 (by omega), hq 3 (by omega), hq 4 (by omega)⟩
    obtain ⟨b, o, s⟩ := a
    subst hs
    rfl
  · obtain ⟨i, hi, rfl⟩ := List.getElem_of_mem hx
    exact (hal i hi).1
theorem texts_of {n : Nat} {c : List Value} {y : DataW H × List MemPlace} (h : DataW.trod enc Tryz.prog w 0 sp held n 23 c = some y) :
    ∃ va l, c = [va] ∧ StS w va l ∧ l.length ≤ maxLen := by
  rcases DataW.trod_slice Tryz.underlying23 h with ⟨rfl, rfl⟩ | ⟨a, len, cap, elems, rest, m, rfl, rfl, rfl, _, hc, hcm, hlen, hel, _, _⟩
  · exact ⟨_, [], rfl, ⟨none, 0, rfl, Nat.le_refl _, fun i hi => absurd hi (by simp)⟩, Nat.zero_le _⟩
  have c1 : Tryz.prog.cellsOf 9 = 1 := by kernel_rfl
  rw [c1] at hel
  obtain ⟨l, hll, hal⟩ := list_of (α := Nm) (Q := fun i x => w.cell? (a.add i) = some (.string ⟨x.toArray⟩)) len (by
    intro i hi
    have h1 := hel i hi
    rw [List.getElem?_eq_getElem (by omega)] at h1
    obtain ⟨cs, h2, h3⟩ := Option.bind_eq_some_iff.1 h1
    obtain ⟨s, rfl, -, -⟩ := DataW.trod_string Tryz.underlying9 h3
    have h4 := (cells_get h2).2 0 (by omega)
    exact ⟨s.data.toList, by simpa [Addr.add] using h4⟩)
  refine ⟨_, l, rfl, ⟨some a, cap, by rw [hll], by omega, fun i hi => ?_⟩, by omega⟩
  have hq := hal i hi
  have q0 := hal 0 (by omega)
  have hs : a.spot = none := by
    have := World.cell?_spot q0
    simpa [Addr.add] using this
  have hlt := cell_lt q0
  rw [add_at hs] at hlt hq
  refine ⟨a.block, a.off, ?_, hlt, hq⟩
  obtain ⟨b, o, s⟩ := a
  subst hs
  rfl
theorem maxLen_is {n : Nat} (h : n ≤ maxLen) : n ≤ 9223372036854775807 := by unfold maxLen at h; omega
set_option maxRecDepth 100000 in
/-- A shelf that is handed in. -/
theorem open_shelf {r : Reach} {b0 : Nat} {v : Value} {d : DataW H} {ps : List MemPlace} (hval : Value.okWide Tryz.prog w r b0 25 v) (hd : DataW.Trod enc Tryz.prog w 0 sp held 25 v d ps) :
    ∃ s, ShS w v s ∧ (∀ x ∈ s.1, (eI x).length ≤ 9223372036854775807) ∧ s.1.length ≤ 9223372036854775807 ∧ s.2.length ≤ 9223372036854775807 := by
  obtain ⟨v0, v1, y0, y1, n, rfl, -, -, h0, h1⟩ := Joins.open_agg2 Tryz.underlying25 (of_decide_eq_true (by kernel_rfl)) (by kernel_rfl) hval hd
  obtain ⟨va, l, e0, hE, hI, hl⟩ := ents_of h0
  obtain ⟨vb, m, e1, hS, hm⟩ := texts_of h1
  cases e0
  cases e1
  exact ⟨(l, m), ⟨v0, v1, rfl, hE, hS⟩, fun x hx => maxLen_is (hI x hx), maxLen_is hl, maxLen_is hm⟩
set_option maxRecDepth 100000 in
theorem open_ents {r : Reach} {b0 : Nat} {v : Value} {d : DataW H} {ps : List MemPlace} (hval : Value.okWide Tryz.prog w r b0 22 v) (hd : DataW.Trod enc Tryz.prog w 0 sp held 22 v d ps) :
    ∃ l, EnS w v l ∧ (∀ x ∈ l, (eI x).length ≤ 9223372036854775807) ∧ l.length ≤ 9223372036854775807 := by
  obtain ⟨a, len, cap, rfl⟩ := okWide_slice Tryz.underlying22 hval
  obtain ⟨fuel, hf⟩ := hd
  obtain ⟨va, l, h1, h2, h3, h4⟩ := ents_of hf
  simp [Value.cells] at h1
  subst h1
  exact ⟨l, h2, fun x hx => maxLen_is (h3 x hx), maxLen_is h4⟩
end
end Go.Proofs.YthnpljkekhieiaaGreatDoor

/- Shelves: what is tried once comes out right. -/
import Derived.Test.YthnpljkekhieiaaGreatDoorGrpW
namespace Go.Proofs.YthnpljkekhieiaaGreatDoor
open Go.RowKit

theorem hIr : ∀ x ∈ rackS.1, (eI x).length ≤ 9223372036854775807 := by
  intro x hx
  rcases List.mem_cons.1 hx with rfl | hx
  · decide
  · rcases List.mem_cons.1 hx with rfl | hx
    · decide
    · cases hx
theorem r6' : putS rackS [newC, newB] = ([rackE, newC, rackF], [[97]]) := by unfold putS; rw [if_pos r6, r7]; rfl
theorem r9' : mkS rackS [98] true = ([rackE, rackF], [[97], [98]]) := by unfold mkS; rw [if_pos r9, r10]; rfl
theorem r11' : drS rackS = ([rackE], [[97]]) := by unfold drS; rw [if_pos r5, r11]; rfl
theorem r12' : unS rackS = [[98]] := by unfold unS; rw [if_pos r5, r12]
theorem r13' : putM rackS [newC, newB] = 1 := by unfold putM; rw [if_pos r6, r8]
theorem r14' : drN rackS = 1 := by unfold drN; rw [if_pos r5, r11]; rfl
theorem putR_c (v va : Value) (w : World) (hE : ES w) (hM : ML w) (hS : ShS w v rackS) (hA : EnS w va [newC, newB]) :
    Calls Tryz.prog 13 #[v, va] w fun e w' => ∃ sv, e = .returned (.tuple #[sv, .int .i64 1, .int .i64 0]) ∧ ShS w' sv ([rackE, newC, rackF], [[97]]) ∧ Bl w w' := by
  have h := PutS_c rackS v va [newC, newB] hIr (by decide) w hE hM hS hA
  rw [r13', r6, r6'] at h
  exact h
theorem markR_c (v : Value) (w : World) (hE : ES w) (hM : ML w) (hS : ShS w v rackS) :
    Calls Tryz.prog 8 #[v, .string ⟨#[98]⟩, .bool true] w fun e w' => ∃ sv, e = .returned (.tuple #[sv, .int .i64 0]) ∧ ShS w' sv ([rackE, rackF], [[97], [98]]) ∧ Bl w w' := by
  have h := MarkS_c rackS v [98] true hIr w hE hM hS
  rw [r9, r9'] at h
  exact h
theorem dropR_c (v : Value) (w : World) (hE : ES w) (hM : ML w) (hS : ShS w v rackS) :
    Calls Tryz.prog 10 #[v] w fun e w' => ∃ sv, e = .returned (.tuple #[sv, .int .i64 1, .int .i64 0]) ∧ ShS w' sv ([rackE], [[97]]) ∧ Bl w w' := by
  have h := DropS_c rackS v hIr w hE hM hS
  rw [r14', r5, r11'] at h
  exact h
theorem unreadR_c (v : Value) (w : World) (hE : ES w) (hM : ML w) (hS : ShS w v rackS) :
    Calls Tryz.prog 9 #[v] w fun e w' => ∃ v', e = .returned (.tuple #[v', .int .i64 0]) ∧ StS w' v' [[98]] ∧ Bl w w' := by
  have h := UnreadS_c rackS v hIr w hE hM hS
  rw [r5, r12'] at h
  exact h
theorem checkR_c (v : Value) (w : World) (hE : ES w) (hM : ML w) (hS : ShS w v rackS) :
    Calls Tryz.prog 11 #[v] w fun e w' => e = .returned (.int .i64 0) ∧ Bl w w' := by
  have h := checkS_c rackS v hIr w hE hM hS
  rw [r5] at h
  exact h
theorem ens_new2 (w : World) (x y : Ent) : EnS (w.alloc (.cells (enW [x, y]).toArray 36)) (.slice (some ⟨w.heap.size, 0, none⟩) 2 2) [x, y] :=
  EnS.of_cells (l := [x, y]) rfl (by decide) (by simp) (fun j u hj => (cell_of_row (heap_alloc_new w _)).trans (by rw [Nat.zero_add]; simpa using hj))
theorem sts_new1 (w : World) (x : Nm) : StS (w.alloc (.cells #[.string ⟨x.toArray⟩] 9)) (.slice (some ⟨w.heap.size, 0, none⟩) 1 1) [x] :=
  ⟨some ⟨w.heap.size, 0, none⟩, 1, rfl, Nat.le_refl _, fun i hi => ⟨_, _, rfl, by simp, by
    have hi : i < 1 := hi
    obtain rfl : i = 0 := by omega
    exact cell_of_row (heap_alloc_new w _)⟩⟩
theorem begun_at {w : World} {a : Option Addr} {c : Nat} {r : Value} (h : ShS w (.agg #[.slice a 3 c, r]) ([rackE, newC, rackF], [[97]])) : ∃ g o, a = some ⟨g, o, none⟩ ∧ w.cell? ⟨g, o + 5, none⟩ = some (.string ⟨#[99]⟩) ∧ w.cell? ⟨g, o + 3, none⟩ = some (.int .i64 9) := by
  obtain ⟨ve, vr, e, hE, -⟩ := h
  cases e
  obtain ⟨a', c', e, -, hA⟩ := hE
  cases e
  obtain ⟨g, o, rfl, -, -, -, -, h4, -⟩ := hA 0 (by simp)
  obtain ⟨g', o', e, -, h1, -⟩ := hA 1 (by simp)
  cases e
  exact ⟨g, o, rfl, h1, h4⟩
set_option maxRecDepth 100000 in
set_option maxHeartbeats 8000000 in
theorem shBegun_c (w : World) (hE : ES w) (hM : ML w) : Calls Tryz.prog 7 #[] w fun e w' => e = .returned (.bool true) ∧ Bl w w' := by
  have hB := Bl.refl w
  go_enter Tryz.func7, Tryz.ntmps7
  go_wp2_with (first | (go_at_call 23; have h_BU := BU; have g_BU := BU; have g_Q3 := Q3; (with_reducible refine (rack_c _).mono ?_); rintro e wR ⟨svR, rfl, hSR, hbR⟩; replace BP : Bl wP wR := Bl.trans (by repeat (first | exact BP | refine Bl.drew ?_ | refine Bl.drewN ?_ _ | refine Bl.alloc ?_ _)) hbR; replace BU : Bl wU wR := Bl.trans (by repeat (first | exact BU | refine Bl.drew ?_ | refine Bl.drewN ?_ _ | refine Bl.alloc ?_ _)) hbR; replace hB : Bl w wR := Bl.trans (by repeat (first | exact hB | refine Bl.drew ?_ | refine Bl.drewN ?_ _ | refine Bl.alloc ?_ _)) hbR; replace Q1 := Q1.of_bl (Bl.trans (by repeat (first | exact (Bl.refl _) | refine Bl.drew ?_ | refine Bl.drewN ?_ _ | refine Bl.alloc ?_ _)) hbR); replace Q2 := Q2.of_bl (Bl.trans (by repeat (first | exact (Bl.refl _) | refine Bl.drew ?_ | refine Bl.drewN ?_ _ | refine Bl.alloc ?_ _)) hbR); replace Q3 := Q3.of_bl (Bl.trans (by repeat (first | exact (Bl.refl _) | refine Bl.drew ?_ | refine Bl.drewN ?_ _ | refine Bl.alloc ?_ _)) hbR); have HSR := Lib.hid hSR; clear hSR) | (go_at_call 23; have h_BP := BP; have h_wD := wD; have g_BP := BP; have g_Q2 := Q2; (with_reducible refine (rack_c _).mono ?_); rintro e wR ⟨svR, rfl, hSR, hbR⟩; replace BP : Bl wP wR := Bl.trans (by repeat (first | exact BP | refine Bl.drew ?_ | refine Bl.drewN ?_ _ | refine Bl.alloc ?_ _)) hbR; replace hB : Bl w wR := Bl.trans (by repeat (first | exact hB | refine Bl.drew ?_ | refine Bl.drewN ?_ _ | refine Bl.alloc ?_ _)) hbR; replace Q1 := Q1.of_bl (Bl.trans (by repeat (first | exact (Bl.refl _) | refine Bl.drew ?_ | refine Bl.drewN ?_ _ | refine Bl.alloc ?_ _)) hbR); replace Q2 := Q2.of_bl (Bl.trans (by repeat (first | exact (Bl.refl _) | refine Bl.drew ?_ | refine Bl.drewN ?_ _ | refine Bl.alloc ?_ _)) hbR); have Q3 := (B2.new wD (.slice aD 1 cD) (.slice tD 1 uD) 25).of_bl hbR; have HSR := Lib.hid hSR; clear hSR) | (go_at_call 23; have h_BP := BP; have h_wM := wM; have g_BP := BP; have g_Q1 := Q1; (with_reducible refine (rack_c _).mono ?_); rintro e wR ⟨svR, rfl, hSR, hbR⟩; replace BP : Bl wP wR := Bl.trans (by repeat (first | exact BP | refine Bl.drew ?_ | refine Bl.drewN ?_ _ | refine Bl.alloc ?_ _)) hbR; replace hB : Bl w wR := Bl.trans (by repeat (first | exact hB | refine Bl.drew ?_ | refine Bl.drewN ?_ _ | refine Bl.alloc ?_ _)) hbR; replace Q1 := Q1.of_bl (Bl.trans (by repeat (first | exact (Bl.refl _) | refine Bl.drew ?_ | refine Bl.drewN ?_ _ | refine Bl.alloc ?_ _)) hbR); have Q2 := (B2.new wM (.slice aM 2 cM) (.slice tM 2 uM) 25).of_bl hbR; have HSR := Lib.hid hSR; clear hSR) | (go_at_call 23; have h_BP := BP; have g_BP := BP; (with_reducible refine (rack_c _).mono ?_); rintro e wR ⟨svR, rfl, hSR, hbR⟩; replace BP : Bl wP wR := Bl.trans (by repeat (first | exact BP | refine Bl.drew ?_ | refine Bl.drewN ?_ _ | refine Bl.alloc ?_ _)) hbR; replace hB : Bl w wR := Bl.trans (by repeat (first | exact hB | refine Bl.drew ?_ | refine Bl.drewN ?_ _ | refine Bl.alloc ?_ _)) hbR; have Q1 := (B2.new wP (.slice aP 3 cP) (.slice tP 1 uP) 25).of_bl hbR; have HSR := Lib.hid hSR; clear hSR) | (go_at_call 23; (with_reducible refine (rack_c _).mono ?_); rintro e wR ⟨svR, rfl, hSR, hbR⟩; replace hB : Bl w wR := Bl.trans (by repeat (first | exact hB | refine Bl.drew ?_ | refine Bl.drewN ?_ _ | refine Bl.alloc ?_ _)) hbR; have HSR := Lib.hid hSR; clear hSR) | (go_at_call 13; (with_reducible refine (putR_c svR _ _ ?_ ?_ ?_ ?_).mono ?_); (exact hE.of_bl (by repeat (first | exact hB | refine Bl.drew ?_ | refine Bl.drewN ?_ _ | refine Bl.alloc ?_ _))); (exact hM.of_bl (by repeat (first | exact hB | refine Bl.drew ?_ | refine Bl.drewN ?_ _ | refine Bl.alloc ?_ _))); (exact HSR.out.of_bl (by repeat (first | exact (Bl.refl _) | refine Bl.drew ?_ | refine Bl.drewN ?_ _ | refine Bl.alloc ?_ _))); (exact ens_new2 _ newC newB); rintro e wP ⟨svP, rfl, hSP, hbP⟩; replace hB : Bl w wP := Bl.trans (by repeat (first | exact hB | refine Bl.drew ?_ | refine Bl.drewN ?_ _ | refine Bl.alloc ?_ _)) hbP; have HP := Lib.hid hSP; obtain ⟨eP, rP, rfl, hEP, hRP⟩ := hSP; obtain ⟨aP, cP, rfl, -, -⟩ := hEP; obtain ⟨tP, uP, rfl, -, -⟩ := hRP; have BP := Bl.refl wP) | (go_at_call 8; have g_BP := BP; have g_Q1 := Q1; (with_reducible refine (markR_c svR _ ?_ ?_ ?_).mono ?_); (exact hE.of_bl (by repeat (first | exact hB | refine Bl.drew ?_ | refine Bl.drewN ?_ _ | refine Bl.alloc ?_ _))); (exact hM.of_bl (by repeat (first | exact hB | refine Bl.drew ?_ | refine Bl.drewN ?_ _ | refine Bl.alloc ?_ _))); (exact HSR.out.of_bl (by repeat (first | exact (Bl.refl _) | refine Bl.drew ?_ | refine Bl.drewN ?_ _ | refine Bl.alloc ?_ _))); rintro e wM ⟨svM, rfl, hSM, hbM⟩; replace BP : Bl wP wM := Bl.trans (by repeat (first | exact BP | refine Bl.drew ?_ | refine Bl.drewN ?_ _ | refine Bl.alloc ?_ _)) hbM; replace hB : Bl w wM := Bl.trans (by repeat (first | exact hB | refine Bl.drew ?_ | refine Bl.drewN ?_ _ | refine Bl.alloc ?_ _)) hbM; replace Q1 := Q1.of_bl (Bl.trans (by repeat (first | exact (Bl.refl _) | refine Bl.drew ?_ | refine Bl.drewN ?_ _ | refine Bl.alloc ?_ _)) hbM); have HM := Lib.hid hSM; obtain ⟨eM, rM, rfl, hEM, hRM⟩ := hSM; obtain ⟨aM, cM, rfl, -, -⟩ := hEM; obtain ⟨tM, uM, rfl, -, -⟩ := hRM) | (go_at_call 10; have g_BP := BP; have g_Q2 := Q2; (with_reducible refine (dropR_c svR _ ?_ ?_ ?_).mono ?_); (exact hE.of_bl (by repeat (first | exact hB | refine Bl.drew ?_ | refine Bl.drewN ?_ _ | refine Bl.alloc ?_ _))); (exact hM.of_bl (by repeat (first | exact hB | refine Bl.drew ?_ | refine Bl.drewN ?_ _ | refine Bl.alloc ?_ _))); (exact HSR.out.of_bl (by repeat (first | exact (Bl.refl _) | refine Bl.drew ?_ | refine Bl.drewN ?_ _ | refine Bl.alloc ?_ _))); rintro e wD ⟨svD, rfl, hSD, hbD⟩; replace BP : Bl wP wD := Bl.trans (by repeat (first | exact BP | refine Bl.drew ?_ | refine Bl.drewN ?_ _ | refine Bl.alloc ?_ _)) hbD; replace hB : Bl w wD := Bl.trans (by repeat (first | exact hB | refine Bl.drew ?_ | refine Bl.drewN ?_ _ | refine Bl.alloc ?_ _)) hbD; replace Q1 := Q1.of_bl (Bl.trans (by repeat (first | exact (Bl.refl _) | refine Bl.drew ?_ | refine Bl.drewN ?_ _ | refine Bl.alloc ?_ _)) hbD); replace Q2 := Q2.of_bl (Bl.trans (by repeat (first | exact (Bl.refl _) | refine Bl.drew ?_ | refine Bl.drewN ?_ _ | refine Bl.alloc ?_ _)) hbD); have HD := Lib.hid hSD; obtain ⟨eD, rD, rfl, hED, hRD⟩ := hSD; obtain ⟨aD, cD, rfl, -, -⟩ := hED; obtain ⟨tD, uD, rfl, -, -⟩ := hRD) | (go_at_call 9; have g_BP := BP; have g_Q3 := Q3; (with_reducible refine (unreadR_c svR _ ?_ ?_ ?_).mono ?_); (exact hE.of_bl (by repeat (first | exact hB | refine Bl.drew ?_ | refine Bl.drewN ?_ _ | refine Bl.alloc ?_ _))); (exact hM.of_bl (by repeat (first | exact hB | refine Bl.drew ?_ | refine Bl.drewN ?_ _ | refine Bl.alloc ?_ _))); (exact HSR.out.of_bl (by repeat (first | exact (Bl.refl _) | refine Bl.drew ?_ | refine Bl.drewN ?_ _ | refine Bl.alloc ?_ _))); rintro e wU ⟨vU, rfl, hSU, hbU⟩; replace BP : Bl wP wU := Bl.trans (by repeat (first | exact BP | refine Bl.drew ?_ | refine Bl.drewN ?_ _ | refine Bl.alloc ?_ _)) hbU; replace hB : Bl w wU := Bl.trans (by repeat (first | exact hB | refine Bl.drew ?_ | refine Bl.drewN ?_ _ | refine Bl.alloc ?_ _)) hbU; replace Q1 := Q1.of_bl (Bl.trans (by repeat (first | exact (Bl.refl _) | refine Bl.drew ?_ | refine Bl.drewN ?_ _ | refine Bl.alloc ?_ _)) hbU); replace Q2 := Q2.of_bl (Bl.trans (by repeat (first | exact (Bl.refl _) | refine Bl.drew ?_ | refine Bl.drewN ?_ _ | refine Bl.alloc ?_ _)) hbU); replace Q3 := Q3.of_bl (Bl.trans (by repeat (first | exact (Bl.refl _) | refine Bl.drew ?_ | refine Bl.drewN ?_ _ | refine Bl.alloc ?_ _)) hbU); have HU := Lib.hid hSU; obtain ⟨aU, cU, rfl, -, -⟩ := hSU; have BU := Bl.refl wU) | (go_at_call 11; have g_BU := BU; have g_Q3 := Q3; (with_reducible refine (checkR_c svR _ ?_ ?_ ?_).mono ?_); (exact hE.of_bl (by repeat (first | exact hB | refine Bl.drew ?_ | refine Bl.drewN ?_ _ | refine Bl.alloc ?_ _))); (exact hM.of_bl (by repeat (first | exact hB | refine Bl.drew ?_ | refine Bl.drewN ?_ _ | refine Bl.alloc ?_ _))); (exact HSR.out.of_bl (by repeat (first | exact (Bl.refl _) | refine Bl.drew ?_ | refine Bl.drewN ?_ _ | refine Bl.alloc ?_ _))); rintro e wC ⟨rfl, hbC⟩; replace BP : Bl wP wC := Bl.trans (by repeat (first | exact BP | refine Bl.drew ?_ | refine Bl.drewN ?_ _ | refine Bl.alloc ?_ _)) hbC; replace BU : Bl wU wC := Bl.trans (by repeat (first | exact BU | refine Bl.drew ?_ | refine Bl.drewN ?_ _ | refine Bl.alloc ?_ _)) hbC; replace hB : Bl w wC := Bl.trans (by repeat (first | exact hB | refine Bl.drew ?_ | refine Bl.drewN ?_ _ | refine Bl.alloc ?_ _)) hbC; replace Q1 := Q1.of_bl (Bl.trans (by repeat (first | exact (Bl.refl _) | refine Bl.drew ?_ | refine Bl.drewN ?_ _ | refine Bl.alloc ?_ _)) hbC); replace Q2 := Q2.of_bl (Bl.trans (by repeat (first | exact (Bl.refl _) | refine Bl.drew ?_ | refine Bl.drewN ?_ _ | refine Bl.alloc ?_ _)) hbC); replace Q3 := Q3.of_bl (Bl.trans (by repeat (first | exact (Bl.refl _) | refine Bl.drew ?_ | refine Bl.drewN ?_ _ | refine Bl.alloc ?_ _)) hbC); obtain ⟨l1, q10, q11⟩ := Q1; obtain ⟨l2, q20, q21⟩ := Q2; obtain ⟨l3, q30, q31⟩ := Q3; obtain ⟨gP, oP, rfl, z1, z2⟩ := begun_at (HP.out.of_bl BP)) | (go_at_call 21; (with_reducible refine (sameT_c [[98]] [[98]] _ _ (by decide) _ ?_ ?_).mono ?_); (exact HU.out.of_bl (by repeat (first | exact BU | refine Bl.drew ?_ | refine Bl.drewN ?_ _ | refine Bl.alloc ?_ _))); (exact sts_new1 _ [98]); rintro e w' ⟨rfl, n, rfl⟩))
  go_ret
  exact ⟨rfl, (by repeat (first | exact hB | refine Bl.drew ?_ | refine Bl.drewN ?_ _ | refine Bl.alloc ?_ _))⟩
end Go.Proofs.YthnpljkekhieiaaGreatDoor

/- Trees: the law TreeBack (printed by gen_treback.py). -/
import Derived.Test.YtlhodanmccpkdaaGreatDoorTreX
import Derived.Test.YtlhodanmccpkdaaGreatDoorGrpO
import Derived.Test.YtlhodanmccpkdaaGreatDoorTreKp
import Derived.Test.YtlhodanmccpkdaaGreatDoorGrpN
namespace Go.Proofs.YtlhodanmccpkdaaGreatDoor
open Go.RowKit

theorem build_ok (l : List Tok) (v : Value) (hz : szT l ≤ 100000000) (h0 : ckE l = 0) (W : World) (hT : TkS W v l) :
    Calls Tryz.prog 6 #[v] W fun e w' => ∃ v', e = .returned (.tuple #[v', .int .i64 0]) ∧ (∃ Q, NdS w' Q v' (ofM l)) ∧ Bl W w' := by
  have r := build_c l v W hT (Sm_of l (by omega)) (by have := txB_sz l; omega) (fun t ht => by have := szT_at l t ht; omega)
  rw [h0, show bdT l = ofM l by unfold bdT; rw [if_pos h0]] at r
  exact r
theorem build_no (l : List Tok) (v : Value) (hz : szT l ≤ 100000000) (W : World) (hT : TkS W v l) :
    Calls Tryz.prog 6 #[v] W fun e w' => ∃ v', e = .returned (.tuple #[v', .int .i64 (ckE l)]) ∧ Bl W w' :=
  (build_c l v W hT (Sm_of l (by omega)) (by have := txB_sz l; omega) (fun t ht => by have := szT_at l t ht; omega)).mono fun e w' ⟨v', he, _, hb⟩ => ⟨v', he, hb⟩
theorem flat_ok (t : List Nd) (v : Value) (P : Nat → Prop) (hw : wtL t ≤ 9000000) (h0 : ckT t = 0) (W : World) (hN : NdS W P v t) :
    Calls Tryz.prog 10 #[v] W fun e w' => ∃ ao cp, e = .returned (.tuple #[.slice ao (fltL t).length cp, .int .i64 0]) ∧ TkS w' (.slice ao (fltL t).length cp) (fltL t) ∧ Bl W w' := by
  refine (flat_c t v P W hw hN).mono fun e w' ⟨v', he, hT, hb⟩ => ?_
  rw [show flT t = fltL t by unfold flT; rw [if_pos h0]] at hT
  have hT2 := hT
  obtain ⟨ao, cp, rfl, -⟩ := hT
  rw [h0] at he
  exact ⟨ao, cp, he, hT2, hb⟩
theorem flat_no (t : List Nd) (v : Value) (P : Nat → Prop) (hw : wtL t ≤ 9000000) (h0 : ckT t ≠ 0) (W : World) (hN : NdS W P v t) :
    Calls Tryz.prog 10 #[v] W fun e w' => ∃ ao cp, e = .returned (.tuple #[.slice ao 0 cp, .int .i64 (ckT t)]) ∧ Bl W w' := by
  refine (flat_c t v P W hw hN).mono fun e w' ⟨v', he, hT, hb⟩ => ?_
  rw [show flT t = [] by unfold flT; rw [if_neg h0]] at hT
  obtain ⟨ao, cp, rfl, -⟩ := hT
  exact ⟨ao, cp, he, hb⟩
theorem same_nd (t : List Nd) (va vb : Value) (P Q : Nat → Prop) (hw : wtL t ≤ 9000000) (W : World) (ha : NdS W P va t) (hb : NdS W Q vb t) :
    Calls Tryz.prog 13 #[va, vb] W fun e w' => e = .returned (.bool true) ∧ Qt W w' := by
  have r := sameNodes_c 9500000 t t va vb P Q W (by omega) (by omega) ha hb
  rw [sameL_self] at r
  exact r
set_option maxRecDepth 100000 in
set_option maxHeartbeats 4000000 in
theorem treeBack_00 (l : List Tok) (t : List Nd) (v vt : Value) (P : Nat → Prop) (hz : szT l ≤ 9000000) (hw : wtL t ≤ 9000000) (h0 : ckE l ≠ 0) (k0 : ckT t ≠ 0) (w : World) (hE : ES w) (hM : ML w) (hl : TkS w v l) (ht : NdS w P vt t) :
    Calls Tryz.prog 4 #[v, vt] w fun e w' => e = .returned (.bool true) ∧ Bl w w' := by
  have GC := Lib.hid (fun W h m => treeBegun_c W h m)
  have TC := Lib.hid (fun W h m => tokenBegun_c W h m)
  have BC := Lib.hid (fun W (hb : Bl w W) => build_no l v (by omega) W (hl.of_bl hb))
  obtain ⟨q, hq⟩ : ∃ q, q = ckE l := ⟨_, rfl⟩
  rw [← hq] at BC h0
  have hq2 : (q != 0) = true := by simpa using h0
  have hq3 : (q == 0) = false := by simpa using h0
  clear hq h0
  have FT := Lib.hid (fun W (hb : Bl w W) => flat_no t vt P hw k0 W (ht.of_bl hb))
  obtain ⟨p, hp⟩ : ∃ p, p = ckT t := ⟨_, rfl⟩
  rw [← hp] at FT k0
  have hp2 : (p != 0) = true := by simpa using k0
  have hp3 : (p == 0) = false := by simpa using k0
  clear hp k0 ht hl
  clear hz hw
  go_enter Tryz.func4, Tryz.ntmps4
  go_wp2_with (first
    | (go_at_call 7; (with_reducible refine (GC.out _ hE hM).mono ?_); rintro e w1 ⟨rfl, hb1⟩; have hE1 := hE.of_bl hb1; have hM1 := hM.of_bl hb1)
    | (go_at_call 9; (with_reducible refine (TC.out _ hE1 hM1).mono ?_); rintro e w2 ⟨rfl, hb2⟩; have hb12 := hb1.trans hb2)
    | (go_at_call 6; (with_reducible refine (BC.out _ hb12).mono ?_); clear BC; rintro e w3 ⟨v1, rfl, hb3⟩; have hbX := hb12.trans hb3)
    | (go_at_call 10; (with_reducible refine (FT.out _ hbX).mono ?_); clear FT; rintro e w9 ⟨a9, c9, rfl, hb9⟩; have hbY := hbX.trans hb9))
  go_ret
  exact ⟨rfl, hbY⟩
set_option maxRecDepth 100000 in
set_option maxHeartbeats 4000000 in
theorem treeBack_01 (l : List Tok) (t : List Nd) (v vt : Value) (P : Nat → Prop) (hz : szT l ≤ 9000000) (hw : wtL t ≤ 9000000) (h0 : ckE l ≠ 0) (k0 : ckT t = 0) (k1 : (fltL t).length ≤ 3000) (w : World) (hE : ES w) (hM : ML w) (hl : TkS w v l) (ht : NdS w P vt t) :
    Calls Tryz.prog 4 #[v, vt] w fun e w' => e = .returned (.bool true) ∧ Bl w w' := by
  have GC := Lib.hid (fun W h m => treeBegun_c W h m)
  have TC := Lib.hid (fun W h m => tokenBegun_c W h m)
  have BC := Lib.hid (fun W (hb : Bl w W) => build_no l v (by omega) W (hl.of_bl hb))
  obtain ⟨q, hq⟩ : ∃ q, q = ckE l := ⟨_, rfl⟩
  rw [← hq] at BC h0
  have hq2 : (q != 0) = true := by simpa using h0
  have hq3 : (q == 0) = false := by simpa using h0
  clear hq h0
  have hzt := sz_flt t
  have FT := Lib.hid (fun W (hb : Bl w W) => flat_ok t vt P hw k0 W (ht.of_bl hb))
  have hf := ckE_flt t k0 k1
  have BT := Lib.hid (fun v W (h : TkS W v (fltL t)) => (show Calls Tryz.prog 6 #[v] W (fun e w' => ∃ v', e = .returned (.tuple #[v', .int .i64 0]) ∧ (∃ Q, NdS w' Q v' t) ∧ Bl W w') from by have r := build_ok (fltL t) v (by omega) hf W h; rw [ofM_flt _ k0] at r; exact r))
  have ST := Lib.hid (fun va Q W (hb : Bl w W) (ha : NdS W Q va t) => same_nd t va vt Q P hw W ha (ht.of_bl hb))
  obtain ⟨G, hG⟩ : ∃ G, G = fltL t := ⟨_, rfl⟩
  rw [← hG] at FT k1 BT
  have k1' : ¬ (3000 : Int) < (G.length : Int) := by omega
  clear hzt hG k0 k1 ht hl hf
  clear hz hw
  go_enter Tryz.func4, Tryz.ntmps4
  go_wp2_with (first
    | (go_at_call 7; (with_reducible refine (GC.out _ hE hM).mono ?_); rintro e w1 ⟨rfl, hb1⟩; have hE1 := hE.of_bl hb1; have hM1 := hM.of_bl hb1)
    | (go_at_call 9; (with_reducible refine (TC.out _ hE1 hM1).mono ?_); rintro e w2 ⟨rfl, hb2⟩; have hb12 := hb1.trans hb2)
    | (go_at_call 6; (with_reducible refine (BC.out _ hb12).mono ?_); clear BC; rintro e w3 ⟨v1, rfl, hb3⟩; have hbX := hb12.trans hb3)
    | (go_at_call 10; (with_reducible refine (FT.out _ hbX).mono ?_); clear FT; rintro e w9 ⟨a9, c9, rfl, hT9, hb9⟩; have hbY := hbX.trans hb9)
    | (go_at_call 6; (with_reducible refine (BT.out _ _ hT9).mono ?_); clear BT; rintro e w10 ⟨v10, rfl, ⟨Q10, hN10⟩, hb10⟩; have hbZ := hbY.trans hb10)
    | (go_at_call 13; (with_reducible refine (ST.out _ _ _ hbZ hN10).mono ?_); rintro e w11 ⟨rfl, hb11⟩))
  go_ret
  exact ⟨rfl, hbZ.trans hb11.bl⟩
set_option maxRecDepth 100000 in
set_option maxHeartbeats 4000000 in
theorem treeBack_02 (l : List Tok) (t : List Nd) (v vt : Value) (P : Nat → Prop) (hz : szT l ≤ 9000000) (hw : wtL t ≤ 9000000) (h0 : ckE l ≠ 0) (k0 : ckT t = 0) (k1 : 3000 < (fltL t).length) (w : World) (hE : ES w) (hM : ML w) (hl : TkS w v l) (ht : NdS w P vt t) :
    Calls Tryz.prog 4 #[v, vt] w fun e w' => e = .returned (.bool true) ∧ Bl w w' := by
  have GC := Lib.hid (fun W h m => treeBegun_c W h m)
  have TC := Lib.hid (fun W h m => tokenBegun_c W h m)
  have BC := Lib.hid (fun W (hb : Bl w W) => build_no l v (by omega) W (hl.of_bl hb))
  obtain ⟨q, hq⟩ : ∃ q, q = ckE l := ⟨_, rfl⟩
  rw [← hq] at BC h0
  have hq2 : (q != 0) = true := by simpa using h0
  have hq3 : (q == 0) = false := by simpa using h0
  clear hq h0
  have hzt := sz_flt t
  have FT := Lib.hid (fun W (hb : Bl w W) => flat_ok t vt P hw k0 W (ht.of_bl hb))
  obtain ⟨G, hG⟩ : ∃ G, G = fltL t := ⟨_, rfl⟩
  rw [← hG] at FT k1
  have k1' : (3000 : Int) < (G.length : Int) := by omega
  clear hzt hG k0 k1 ht hl
  clear hz hw
  go_enter Tryz.func4, Tryz.ntmps4
  go_wp2_with (first
    | (go_at_call 7; (with_reducible refine (GC.out _ hE hM).mono ?_); rintro e w1 ⟨rfl, hb1⟩; have hE1 := hE.of_bl hb1; have hM1 := hM.of_bl hb1)
    | (go_at_call 9; (with_reducible refine (TC.out _ hE1 hM1).mono ?_); rintro e w2 ⟨rfl, hb2⟩; have hb12 := hb1.trans hb2)
    | (go_at_call 6; (with_reducible refine (BC.out _ hb12).mono ?_); clear BC; rintro e w3 ⟨v1, rfl, hb3⟩; have hbX := hb12.trans hb3)
    | (go_at_call 10; (with_reducible refine (FT.out _ hbX).mono ?_); clear FT; rintro e w9 ⟨a9, c9, rfl, hT9, hb9⟩; have hbY := hbX.trans hb9))
  go_ret
  exact ⟨rfl, hbY⟩
set_option maxRecDepth 100000 in
set_option maxHeartbeats 4000000 in
theorem treeBack_10 (l : List Tok) (t : List Nd) (v vt : Value) (P : Nat → Prop) (hz : szT l ≤ 9000000) (hw : wtL t ≤ 9000000) (h0 : ckE l = 0) (h1 : (fltL (ofM l)).length ≤ 3000) (k0 : ckT t ≠ 0) (w : World) (hE : ES w) (hM : ML w) (hl : TkS w v l) (ht : NdS w P vt t) :
    Calls Tryz.prog 4 #[v, vt] w fun e w' => e = .returned (.bool true) ∧ Bl w w' := by
  have GC := Lib.hid (fun W h m => treeBegun_c W h m)
  have TC := Lib.hid (fun W h m => tokenBegun_c W h m)
  have hA := ckT_ofM l h0
  have hwA : wtL (ofM l) ≤ 9000000 := Nat.le_trans (wt_ofM l) hz
  have hzF := sz_flt (ofM l)
  have BC := Lib.hid (fun W (hb : Bl w W) => build_ok l v (by omega) h0 W (hl.of_bl hb))
  have FC := Lib.hid (fun v Q W (h : NdS W Q v (ofM l)) => flat_ok (ofM l) v Q hwA hA W h)
  have CC := Lib.hid (fun v Q W (h : NdS W Q v (ofM l)) => (show Calls Tryz.prog 11 #[v] W (fun e w' => e = .returned (.int .i64 0) ∧ Bl W w') from by have r := check_t (ofM l) v Q W hwA h; rw [hA] at r; exact r))
  have hF := ckE_flt (ofM l) hA h1
  have KC := Lib.hid (fun v W (h : TkS W v (fltL (ofM l))) => (show Calls Tryz.prog 12 #[v] W (fun e w' => e = .returned (.int .i64 0) ∧ Bl W w') from by have r := check_c (fltL (ofM l)) v (Sm_of _ (by omega)) W h; rw [hF] at r; exact r))
  have BC2 := Lib.hid (fun v W (h : TkS W v (fltL (ofM l))) => (show Calls Tryz.prog 6 #[v] W (fun e w' => ∃ v', e = .returned (.tuple #[v', .int .i64 0]) ∧ (∃ Q, NdS w' Q v' (ofM l)) ∧ Bl W w') from by have r := build_ok (fltL (ofM l)) v (by omega) hF W h; rw [ofM_flt _ hA] at r; exact r))
  have SC := Lib.hid (fun va vb Q R W (ha : NdS W Q va (ofM l)) (hb : NdS W R vb (ofM l)) => same_nd (ofM l) va vb Q R hwA W ha hb)
  obtain ⟨F, hFe⟩ : ∃ F, F = fltL (ofM l) := ⟨_, rfl⟩
  obtain ⟨A, hAe⟩ : ∃ A, A = ofM l := ⟨_, rfl⟩
  rw [← hFe] at FC KC BC2 h1
  rw [← hAe] at BC FC CC BC2 SC
  have h1' : (F.length : Int) ≤ 3000 := by omega
  clear hA hwA hzF hF hFe hAe h0 h1
  have FT := Lib.hid (fun W (hb : Bl w W) => flat_no t vt P hw k0 W (ht.of_bl hb))
  obtain ⟨p, hp⟩ : ∃ p, p = ckT t := ⟨_, rfl⟩
  rw [← hp] at FT k0
  have hp2 : (p != 0) = true := by simpa using k0
  have hp3 : (p == 0) = false := by simpa using k0
  clear hp k0 ht hl
  clear hz hw
  go_enter Tryz.func4, Tryz.ntmps4
  go_wp2_with (first
    | (go_at_call 7; (with_reducible refine (GC.out _ hE hM).mono ?_); rintro e w1 ⟨rfl, hb1⟩; have hE1 := hE.of_bl hb1; have hM1 := hM.of_bl hb1)
    | (go_at_call 9; (with_reducible refine (TC.out _ hE1 hM1).mono ?_); rintro e w2 ⟨rfl, hb2⟩; have hb12 := hb1.trans hb2)
    | (go_at_call 6; (with_reducible refine (BC.out _ hb12).mono ?_); clear BC; rintro e w3 ⟨v1, rfl, ⟨Q1, hN1⟩, hb3⟩; have hb13 := hb12.trans hb3)
    | (go_at_call 10; (with_reducible refine (FC.out _ _ _ hN1).mono ?_); clear FC; rintro e w4 ⟨a4, c4, rfl, hT4, hb4⟩; have hb14 := hb13.trans hb4; have hN14 := hN1.of_bl hb4)
    | (go_at_call 11; (with_reducible refine (CC.out _ _ _ hN14).mono ?_); clear CC; rintro e w5 ⟨rfl, hb5⟩; have hb15 := hb14.trans hb5; have hT5 := hT4.of_bl hb5; have hN15 := hN14.of_bl hb5)
    | (go_at_call 12; (with_reducible refine (KC.out _ _ hT5).mono ?_); clear KC; rintro e w6 ⟨rfl, hb6⟩; have hb16 := hb15.trans hb6; have hT6 := hT5.of_bl hb6; have hN16 := hN15.of_bl hb6)
    | (go_at_call 6; (with_reducible refine (BC2.out _ _ hT6).mono ?_); clear BC2; rintro e w7 ⟨v7, rfl, ⟨Q7, hN7⟩, hb7⟩; have hb17 := hb16.trans hb7; have hN17 := hN16.of_bl hb7)
    | (go_at_call 13; (with_reducible refine (SC.out _ _ _ _ _ hN17 hN7).mono ?_); clear SC; rintro e w8 ⟨rfl, hb8⟩; have hbX := hb17.trans hb8.bl)
    | (go_at_call 10; (with_reducible refine (FT.out _ hbX).mono ?_); clear FT; rintro e w9 ⟨a9, c9, rfl, hb9⟩; have hbY := hbX.trans hb9))
  go_ret
  exact ⟨rfl, hbY⟩
set_option maxRecDepth 100000 in
set_option maxHeartbeats 4000000 in
theorem treeBack_11 (l : List Tok) (t : List Nd) (v vt : Value) (P : Nat → Prop) (hz : szT l ≤ 9000000) (hw : wtL t ≤ 9000000) (h0 : ckE l = 0) (h1 : (fltL (ofM l)).length ≤ 3000) (k0 : ckT t = 0) (k1 : (fltL t).length ≤ 3000) (w : World) (hE : ES w) (hM : ML w) (hl : TkS w v l) (ht : NdS w P vt t) :
    Calls Tryz.prog 4 #[v, vt] w fun e w' => e = .returned (.bool true) ∧ Bl w w' := by
  have GC := Lib.hid (fun W h m => treeBegun_c W h m)
  have TC := Lib.hid (fun W h m => tokenBegun_c W h m)
  have hA := ckT_ofM l h0
  have hwA : wtL (ofM l) ≤ 9000000 := Nat.le_trans (wt_ofM l) hz
  have hzF := sz_flt (ofM l)
  have BC := Lib.hid (fun W (hb : Bl w W) => build_ok l v (by omega) h0 W (hl.of_bl hb))
  have FC := Lib.hid (fun v Q W (h : NdS W Q v (ofM l)) => flat_ok (ofM l) v Q hwA hA W h)
  have CC := Lib.hid (fun v Q W (h : NdS W Q v (ofM l)) => (show Calls Tryz.prog 11 #[v] W (fun e w' => e = .returned (.int .i64 0) ∧ Bl W w') from by have r := check_t (ofM l) v Q W hwA h; rw [hA] at r; exact r))
  have hF := ckE_flt (ofM l) hA h1
  have KC := Lib.hid (fun v W (h : TkS W v (fltL (ofM l))) => (show Calls Tryz.prog 12 #[v] W (fun e w' => e = .returned (.int .i64 0) ∧ Bl W w') from by have r := check_c (fltL (ofM l)) v (Sm_of _ (by omega)) W h; rw [hF] at r; exact r))
  have BC2 := Lib.hid (fun v W (h : TkS W v (fltL (ofM l))) => (show Calls Tryz.prog 6 #[v] W (fun e w' => ∃ v', e = .returned (.tuple #[v', .int .i64 0]) ∧ (∃ Q, NdS w' Q v' (ofM l)) ∧ Bl W w') from by have r := build_ok (fltL (ofM l)) v (by omega) hF W h; rw [ofM_flt _ hA] at r; exact r))
  have SC := Lib.hid (fun va vb Q R W (ha : NdS W Q va (ofM l)) (hb : NdS W R vb (ofM l)) => same_nd (ofM l) va vb Q R hwA W ha hb)
  obtain ⟨F, hFe⟩ : ∃ F, F = fltL (ofM l) := ⟨_, rfl⟩
  obtain ⟨A, hAe⟩ : ∃ A, A = ofM l := ⟨_, rfl⟩
  rw [← hFe] at FC KC BC2 h1
  rw [← hAe] at BC FC CC BC2 SC
  have h1' : (F.length : Int) ≤ 3000 := by omega
  clear hA hwA hzF hF hFe hAe h0 h1
  have hzt := sz_flt t
  have FT := Lib.hid (fun W (hb : Bl w W) => flat_ok t vt P hw k0 W (ht.of_bl hb))
  have hf := ckE_flt t k0 k1
  have BT := Lib.hid (fun v W (h : TkS W v (fltL t)) => (show Calls Tryz.prog 6 #[v] W (fun e w' => ∃ v', e = .returned (.tuple #[v', .int .i64 0]) ∧ (∃ Q, NdS w' Q v' t) ∧ Bl W w') from by have r := build_ok (fltL t) v (by omega) hf W h; rw [ofM_flt _ k0] at r; exact r))
  have ST := Lib.hid (fun va Q W (hb : Bl w W) (ha : NdS W Q va t) => same_nd t va vt Q P hw W ha (ht.of_bl hb))
  obtain ⟨G, hG⟩ : ∃ G, G = fltL t := ⟨_, rfl⟩
  rw [← hG] at FT k1 BT
  have k1' : ¬ (3000 : Int) < (G.length : Int) := by omega
  clear hzt hG k0 k1 ht hl hf
  clear hz hw
  go_enter Tryz.func4, Tryz.ntmps4
  go_wp2_with (first
    | (go_at_call 7; (with_reducible refine (GC.out _ hE hM).mono ?_); rintro e w1 ⟨rfl, hb1⟩; have hE1 := hE.of_bl hb1; have hM1 := hM.of_bl hb1)
    | (go_at_call 9; (with_reducible refine (TC.out _ hE1 hM1).mono ?_); rintro e w2 ⟨rfl, hb2⟩; have hb12 := hb1.trans hb2)
    | (go_at_call 6; (with_reducible refine (BC.out _ hb12).mono ?_); clear BC; rintro e w3 ⟨v1, rfl, ⟨Q1, hN1⟩, hb3⟩; have hb13 := hb12.trans hb3)
    | (go_at_call 10; (with_reducible refine (FC.out _ _ _ hN1).mono ?_); clear FC; rintro e w4 ⟨a4, c4, rfl, hT4, hb4⟩; have hb14 := hb13.trans hb4; have hN14 := hN1.of_bl hb4)
    | (go_at_call 11; (with_reducible refine (CC.out _ _ _ hN14).mono ?_); clear CC; rintro e w5 ⟨rfl, hb5⟩; have hb15 := hb14.trans hb5; have hT5 := hT4.of_bl hb5; have hN15 := hN14.of_bl hb5)
    | (go_at_call 12; (with_reducible refine (KC.out _ _ hT5).mono ?_); clear KC; rintro e w6 ⟨rfl, hb6⟩; have hb16 := hb15.trans hb6; have hT6 := hT5.of_bl hb6; have hN16 := hN15.of_bl hb6)
    | (go_at_call 6; (with_reducible refine (BC2.out _ _ hT6).mono ?_); clear BC2; rintro e w7 ⟨v7, rfl, ⟨Q7, hN7⟩, hb7⟩; have hb17 := hb16.trans hb7; have hN17 := hN16.of_bl hb7)
    | (go_at_call 13; (with_reducible refine (SC.out _ _ _ _ _ hN17 hN7).mono ?_); clear SC; rintro e w8 ⟨rfl, hb8⟩; have hbX := hb17.trans hb8.bl)
    | (go_at_call 10; (with_reducible refine (FT.out _ hbX).mono ?_); clear FT; rintro e w9 ⟨a9, c9, rfl, hT9, hb9⟩; have hbY := hbX.trans hb9)
    | (go_at_call 6; (with_reducible refine (BT.out _ _ hT9).mono ?_); clear BT; rintro e w10 ⟨v10, rfl, ⟨Q10, hN10⟩, hb10⟩; have hbZ := hbY.trans hb10)
    | (go_at_call 13; (with_reducible refine (ST.out _ _ _ hbZ hN10).mono ?_); rintro e w11 ⟨rfl, hb11⟩))
  go_ret
  exact ⟨rfl, hbZ.trans hb11.bl⟩
set_option maxRecDepth 100000 in
set_option maxHeartbeats 4000000 in
theorem treeBack_12 (l : List Tok) (t : List Nd) (v vt : Value) (P : Nat → Prop) (hz : szT l ≤ 9000000) (hw : wtL t ≤ 9000000) (h0 : ckE l = 0) (h1 : (fltL (ofM l)).length ≤ 3000) (k0 : ckT t = 0) (k1 : 3000 < (fltL t).length) (w : World) (hE : ES w) (hM : ML w) (hl : TkS w v l) (ht : NdS w P vt t) :
    Calls Tryz.prog 4 #[v, vt] w fun e w' => e = .returned (.bool true) ∧ Bl w w' := by
  have GC := Lib.hid (fun W h m => treeBegun_c W h m)
  have TC := Lib.hid (fun W h m => tokenBegun_c W h m)
  have hA := ckT_ofM l h0
  have hwA : wtL (ofM l) ≤ 9000000 := Nat.le_trans (wt_ofM l) hz
  have hzF := sz_flt (ofM l)
  have BC := Lib.hid (fun W (hb : Bl w W) => build_ok l v (by omega) h0 W (hl.of_bl hb))
  have FC := Lib.hid (fun v Q W (h : NdS W Q v (ofM l)) => flat_ok (ofM l) v Q hwA hA W h)
  have CC := Lib.hid (fun v Q W (h : NdS W Q v (ofM l)) => (show Calls Tryz.prog 11 #[v] W (fun e w' => e = .returned (.int .i64 0) ∧ Bl W w') from by have r := check_t (ofM l) v Q W hwA h; rw [hA] at r; exact r))
  have hF := ckE_flt (ofM l) hA h1
  have KC := Lib.hid (fun v W (h : TkS W v (fltL (ofM l))) => (show Calls Tryz.prog 12 #[v] W (fun e w' => e = .returned (.int .i64 0) ∧ Bl W w') from by have r := check_c (fltL (ofM l)) v (Sm_of _ (by omega)) W h; rw [hF] at r; exact r))
  have BC2 := Lib.hid (fun v W (h : TkS W v (fltL (ofM l))) => (show Calls Tryz.prog 6 #[v] W (fun e w' => ∃ v', e = .returned (.tuple #[v', .int .i64 0]) ∧ (∃ Q, NdS w' Q v' (ofM l)) ∧ Bl W w') from by have r := build_ok (fltL (ofM l)) v (by omega) hF W h; rw [ofM_flt _ hA] at r; exact r))
  have SC := Lib.hid (fun va vb Q R W (ha : NdS W Q va (ofM l)) (hb : NdS W R vb (ofM l)) => same_nd (ofM l) va vb Q R hwA W ha hb)
  obtain ⟨F, hFe⟩ : ∃ F, F = fltL (ofM l) := ⟨_, rfl⟩
  obtain ⟨A, hAe⟩ : ∃ A, A = ofM l := ⟨_, rfl⟩
  rw [← hFe] at FC KC BC2 h1
  rw [← hAe] at BC FC CC BC2 SC
  have h1' : (F.length : Int) ≤ 3000 := by omega
  clear hA hwA hzF hF hFe hAe h0 h1
  have hzt := sz_flt t
  have FT := Lib.hid (fun W (hb : Bl w W) => flat_ok t vt P hw k0 W (ht.of_bl hb))
  obtain ⟨G, hG⟩ : ∃ G, G = fltL t := ⟨_, rfl⟩
  rw [← hG] at FT k1
  have k1' : (3000 : Int) < (G.length : Int) := by omega
  clear hzt hG k0 k1 ht hl
  clear hz hw
  go_enter Tryz.func4, Tryz.ntmps4
  go_wp2_with (first
    | (go_at_call 7; (with_reducible refine (GC.out _ hE hM).mono ?_); rintro e w1 ⟨rfl, hb1⟩; have hE1 := hE.of_bl hb1; have hM1 := hM.of_bl hb1)
    | (go_at_call 9; (with_reducible refine (TC.out _ hE1 hM1).mono ?_); rintro e w2 ⟨rfl, hb2⟩; have hb12 := hb1.trans hb2)
    | (go_at_call 6; (with_reducible refine (BC.out _ hb12).mono ?_); clear BC; rintro e w3 ⟨v1, rfl, ⟨Q1, hN1⟩, hb3⟩; have hb13 := hb12.trans hb3)
    | (go_at_call 10; (with_reducible refine (FC.out _ _ _ hN1).mono ?_); clear FC; rintro e w4 ⟨a4, c4, rfl, hT4, hb4⟩; have hb14 := hb13.trans hb4; have hN14 := hN1.of_bl hb4)
    | (go_at_call 11; (with_reducible refine (CC.out _ _ _ hN14).mono ?_); clear CC; rintro e w5 ⟨rfl, hb5⟩; have hb15 := hb14.trans hb5; have hT5 := hT4.of_bl hb5; have hN15 := hN14.of_bl hb5)
    | (go_at_call 12; (with_reducible refine (KC.out _ _ hT5).mono ?_); clear KC; rintro e w6 ⟨rfl, hb6⟩; have hb16 := hb15.trans hb6; have hT6 := hT5.of_bl hb6; have hN16 := hN15.of_bl hb6)
    | (go_at_call 6; (with_reducible refine (BC2.out _ _ hT6).mono ?_); clear BC2; rintro e w7 ⟨v7, rfl, ⟨Q7, hN7⟩, hb7⟩; have hb17 := hb16.trans hb7; have hN17 := hN16.of_bl hb7)
    | (go_at_call 13; (with_reducible refine (SC.out _ _ _ _ _ hN17 hN7).mono ?_); clear SC; rintro e w8 ⟨rfl, hb8⟩; have hbX := hb17.trans hb8.bl)
    | (go_at_call 10; (with_reducible refine (FT.out _ hbX).mono ?_); clear FT; rintro e w9 ⟨a9, c9, rfl, hT9, hb9⟩; have hbY := hbX.trans hb9))
  go_ret
  exact ⟨rfl, hbY⟩
set_option maxRecDepth 100000 in
set_option maxHeartbeats 4000000 in
theorem treeBack_20 (l : List Tok) (t : List Nd) (v vt : Value) (P : Nat → Prop) (hz : szT l ≤ 9000000) (hw : wtL t ≤ 9000000) (h0 : ckE l = 0) (h1 : 3000 < (fltL (ofM l)).length) (k0 : ckT t ≠ 0) (w : World) (hE : ES w) (hM : ML w) (hl : TkS w v l) (ht : NdS w P vt t) :
    Calls Tryz.prog 4 #[v, vt] w fun e w' => e = .returned (.bool true) ∧ Bl w w' := by
  have GC := Lib.hid (fun W h m => treeBegun_c W h m)
  have TC := Lib.hid (fun W h m => tokenBegun_c W h m)
  have hA := ckT_ofM l h0
  have hwA : wtL (ofM l) ≤ 9000000 := Nat.le_trans (wt_ofM l) hz
  have hzF := sz_flt (ofM l)
  have BC := Lib.hid (fun W (hb : Bl w W) => build_ok l v (by omega) h0 W (hl.of_bl hb))
  have FC := Lib.hid (fun v Q W (h : NdS W Q v (ofM l)) => flat_ok (ofM l) v Q hwA hA W h)
  have CC := Lib.hid (fun v Q W (h : NdS W Q v (ofM l)) => (show Calls Tryz.prog 11 #[v] W (fun e w' => e = .returned (.int .i64 0) ∧ Bl W w') from by have r := check_t (ofM l) v Q W hwA h; rw [hA] at r; exact r))
  have hF : ckE (fltL (ofM l)) ≠ 0 := fun h => by have := (ckE_all h).1; omega
  have KC := Lib.hid (fun v W (h : TkS W v (fltL (ofM l))) => check_c (fltL (ofM l)) v (Sm_of _ (by omega)) W h)
  have BC2 := Lib.hid (fun v W (h : TkS W v (fltL (ofM l))) => build_no (fltL (ofM l)) v (by omega) W h)
  obtain ⟨q, hq⟩ : ∃ q, q = ckE (fltL (ofM l)) := ⟨_, rfl⟩
  rw [← hq] at BC2 KC hF
  have hq2 : (q != 0) = true := by simpa using hF
  have hq3 : (q == 0) = false := by simpa using hF
  obtain ⟨F, hFe⟩ : ∃ F, F = fltL (ofM l) := ⟨_, rfl⟩
  obtain ⟨A, hAe⟩ : ∃ A, A = ofM l := ⟨_, rfl⟩
  rw [← hFe] at FC KC BC2 h1
  rw [← hAe] at BC FC CC
  have h1' : ¬ (F.length : Int) ≤ 3000 := by omega
  clear hA hwA hzF hF hFe hAe h0 h1 hq
  have FT := Lib.hid (fun W (hb : Bl w W) => flat_no t vt P hw k0 W (ht.of_bl hb))
  obtain ⟨p, hp⟩ : ∃ p, p = ckT t := ⟨_, rfl⟩
  rw [← hp] at FT k0
  have hp2 : (p != 0) = true := by simpa using k0
  have hp3 : (p == 0) = false := by simpa using k0
  clear hp k0 ht hl
  clear hz hw
  go_enter Tryz.func4, Tryz.ntmps4
  go_wp2_with (first
    | (go_at_call 7; (with_reducible refine (GC.out _ hE hM).mono ?_); rintro e w1 ⟨rfl, hb1⟩; have hE1 := hE.of_bl hb1; have hM1 := hM.of_bl hb1)
    | (go_at_call 9; (with_reducible refine (TC.out _ hE1 hM1).mono ?_); rintro e w2 ⟨rfl, hb2⟩; have hb12 := hb1.trans hb2)
    | (go_at_call 6; (with_reducible refine (BC.out _ hb12).mono ?_); clear BC; rintro e w3 ⟨v1, rfl, ⟨Q1, hN1⟩, hb3⟩; have hb13 := hb12.trans hb3)
    | (go_at_call 10; (with_reducible refine (FC.out _ _ _ hN1).mono ?_); clear FC; rintro e w4 ⟨a4, c4, rfl, hT4, hb4⟩; have hb14 := hb13.trans hb4; have hN14 := hN1.of_bl hb4)
    | (go_at_call 11; (with_reducible refine (CC.out _ _ _ hN14).mono ?_); clear CC; rintro e w5 ⟨rfl, hb5⟩; have hb15 := hb14.trans hb5; have hT5 := hT4.of_bl hb5; have hN15 := hN14.of_bl hb5)
    | (go_at_call 12; (with_reducible refine (KC.out _ _ hT5).mono ?_); clear KC; rintro e w6 ⟨rfl, hb6⟩; have hb16 := hb15.trans hb6; have hT6 := hT5.of_bl hb6; have hN16 := hN15.of_bl hb6)
    | (go_at_call 6; (with_reducible refine (BC2.out _ _ hT6).mono ?_); clear BC2; rintro e w7 ⟨v7, rfl, hb7⟩; have hbX := hb16.trans hb7)
    | (go_at_call 10; (with_reducible refine (FT.out _ hbX).mono ?_); clear FT; rintro e w9 ⟨a9, c9, rfl, hb9⟩; have hbY := hbX.trans hb9))
  go_ret
  exact ⟨rfl, hbY⟩
set_option maxRecDepth 100000 in
set_option maxHeartbeats 4000000 in
theorem treeBack_21 (l : List Tok) (t : List Nd) (v vt : Value) (P : Nat → Prop) (hz : szT l ≤ 9000000) (hw : wtL t ≤ 9000000) (h0 : ckE l = 0) (h1 : 3000 < (fltL (ofM l)).length) (k0 : ckT t = 0) (k1 : (fltL t).length ≤ 3000) (w : World) (hE : ES w) (hM : ML w) (hl : TkS w v l) (ht : NdS w P vt t) :
    Calls Tryz.prog 4 #[v, vt] w fun e w' => e = .returned (.bool true) ∧ Bl w w' := by
  have GC := Lib.hid (fun W h m => treeBegun_c W h m)
  have TC := Lib.hid (fun W h m => tokenBegun_c W h m)
  have hA := ckT_ofM l h0
  have hwA : wtL (ofM l) ≤ 9000000 := Nat.le_trans (wt_ofM l) hz
  have hzF := sz_flt (ofM l)
  have BC := Lib.hid (fun W (hb : Bl w W) => build_ok l v (by omega) h0 W (hl.of_bl hb))
  have FC := Lib.hid (fun v Q W (h : NdS W Q v (ofM l)) => flat_ok (ofM l) v Q hwA hA W h)
  have CC := Lib.hid (fun v Q W (h : NdS W Q v (ofM l)) => (show Calls Tryz.prog 11 #[v] W (fun e w' => e = .returned (.int .i64 0) ∧ Bl W w') from by have r := check_t (ofM l) v Q W hwA h; rw [hA] at r; exact r))
  have hF : ckE (fltL (ofM l)) ≠ 0 := fun h => by have := (ckE_all h).1; omega
  have KC := Lib.hid (fun v W (h : TkS W v (fltL (ofM l))) => check_c (fltL (ofM l)) v (Sm_of _ (by omega)) W h)
  have BC2 := Lib.hid (fun v W (h : TkS W v (fltL (ofM l))) => build_no (fltL (ofM l)) v (by omega) W h)
  obtain ⟨q, hq⟩ : ∃ q, q = ckE (fltL (ofM l)) := ⟨_, rfl⟩
  rw [← hq] at BC2 KC hF
  have hq2 : (q != 0) = true := by simpa using hF
  have hq3 : (q == 0) = false := by simpa using hF
  obtain ⟨F, hFe⟩ : ∃ F, F = fltL (ofM l) := ⟨_, rfl⟩
  obtain ⟨A, hAe⟩ : ∃ A, A = ofM l := ⟨_, rfl⟩
  rw [← hFe] at FC KC BC2 h1
  rw [← hAe] at BC FC CC
  have h1' : ¬ (F.length : Int) ≤ 3000 := by omega
  clear hA hwA hzF hF hFe hAe h0 h1 hq
  have hzt := sz_flt t
  have FT := Lib.hid (fun W (hb : Bl w W) => flat_ok t vt P hw k0 W (ht.of_bl hb))
  have hf := ckE_flt t k0 k1
  have BT := Lib.hid (fun v W (h : TkS W v (fltL t)) => (show Calls Tryz.prog 6 #[v] W (fun e w' => ∃ v', e = .returned (.tuple #[v', .int .i64 0]) ∧ (∃ Q, NdS w' Q v' t) ∧ Bl W w') from by have r := build_ok (fltL t) v (by omega) hf W h; rw [ofM_flt _ k0] at r; exact r))
  have ST := Lib.hid (fun va Q W (hb : Bl w W) (ha : NdS W Q va t) => same_nd t va vt Q P hw W ha (ht.of_bl hb))
  obtain ⟨G, hG⟩ : ∃ G, G = fltL t := ⟨_, rfl⟩
  rw [← hG] at FT k1 BT
  have k1' : ¬ (3000 : Int) < (G.length : Int) := by omega
  clear hzt hG k0 k1 ht hl hf
  clear hz hw
  go_enter Tryz.func4, Tryz.ntmps4
  go_wp2_with (first
    | (go_at_call 7; (with_reducible refine (GC.out _ hE hM).mono ?_); rintro e w1 ⟨rfl, hb1⟩; have hE1 := hE.of_bl hb1; have hM1 := hM.of_bl hb1)
    | (go_at_call 9; (with_reducible refine (TC.out _ hE1 hM1).mono ?_); rintro e w2 ⟨rfl, hb2⟩; have hb12 := hb1.trans hb2)
    | (go_at_call 6; (with_reducible refine (BC.out _ hb12).mono ?_); clear BC; rintro e w3 ⟨v1, rfl, ⟨Q1, hN1⟩, hb3⟩; have hb13 := hb12.trans hb3)
    | (go_at_call 10; (with_reducible refine (FC.out _ _ _ hN1).mono ?_); clear FC; rintro e w4 ⟨a4, c4, rfl, hT4, hb4⟩; have hb14 := hb13.trans hb4; have hN14 := hN1.of_bl hb4)
    | (go_at_call 11; (with_reducible refine (CC.out _ _ _ hN14).mono ?_); clear CC; rintro e w5 ⟨rfl, hb5⟩; have hb15 := hb14.trans hb5; have hT5 := hT4.of_bl hb5; have hN15 := hN14.of_bl hb5)
    | (go_at_call 12; (with_reducible refine (KC.out _ _ hT5).mono ?_); clear KC; rintro e w6 ⟨rfl, hb6⟩; have hb16 := hb15.trans hb6; have hT6 := hT5.of_bl hb6; have hN16 := hN15.of_bl hb6)
    | (go_at_call 6; (with_reducible refine (BC2.out _ _ hT6).mono ?_); clear BC2; rintro e w7 ⟨v7, rfl, hb7⟩; have hbX := hb16.trans hb7)
    | (go_at_call 10; (with_reducible refine (FT.out _ hbX).mono ?_); clear FT; rintro e w9 ⟨a9, c9, rfl, hT9, hb9⟩; have hbY := hbX.trans hb9)
    | (go_at_call 6; (with_reducible refine (BT.out _ _ hT9).mono ?_); clear BT; rintro e w10 ⟨v10, rfl, ⟨Q10, hN10⟩, hb10⟩; have hbZ := hbY.trans hb10)
    | (go_at_call 13; (with_reducible refine (ST.out _ _ _ hbZ hN10).mono ?_); rintro e w11 ⟨rfl, hb11⟩))
  go_ret
  exact ⟨rfl, hbZ.trans hb11.bl⟩
set_option maxRecDepth 100000 in
set_option maxHeartbeats 4000000 in
theorem treeBack_22 (l : List Tok) (t : List Nd) (v vt : Value) (P : Nat → Prop) (hz : szT l ≤ 9000000) (hw : wtL t ≤ 9000000) (h0 : ckE l = 0) (h1 : 3000 < (fltL (ofM l)).length) (k0 : ckT t = 0) (k1 : 3000 < (fltL t).length) (w : World) (hE : ES w) (hM : ML w) (hl : TkS w v l) (ht : NdS w P vt t) :
    Calls Tryz.prog 4 #[v, vt] w fun e w' => e = .returned (.bool true) ∧ Bl w w' := by
  have GC := Lib.hid (fun W h m => treeBegun_c W h m)
  have TC := Lib.hid (fun W h m => tokenBegun_c W h m)
  have hA := ckT_ofM l h0
  have hwA : wtL (ofM l) ≤ 9000000 := Nat.le_trans (wt_ofM l) hz
  have hzF := sz_flt (ofM l)
  have BC := Lib.hid (fun W (hb : Bl w W) => build_ok l v (by omega) h0 W (hl.of_bl hb))
  have FC := Lib.hid (fun v Q W (h : NdS W Q v (ofM l)) => flat_ok (ofM l) v Q hwA hA W h)
  have CC := Lib.hid (fun v Q W (h : NdS W Q v (ofM l)) => (show Calls Tryz.prog 11 #[v] W (fun e w' => e = .returned (.int .i64 0) ∧ Bl W w') from by have r := check_t (ofM l) v Q W hwA h; rw [hA] at r; exact r))
  have hF : ckE (fltL (ofM l)) ≠ 0 := fun h => by have := (ckE_all h).1; omega
  have KC := Lib.hid (fun v W (h : TkS W v (fltL (ofM l))) => check_c (fltL (ofM l)) v (Sm_of _ (by omega)) W h)
  have BC2 := Lib.hid (fun v W (h : TkS W v (fltL (ofM l))) => build_no (fltL (ofM l)) v (by omega) W h)
  obtain ⟨q, hq⟩ : ∃ q, q = ckE (fltL (ofM l)) := ⟨_, rfl⟩
  rw [← hq] at BC2 KC hF
  have hq2 : (q != 0) = true := by simpa using hF
  have hq3 : (q == 0) = false := by simpa using hF
  obtain ⟨F, hFe⟩ : ∃ F, F = fltL (ofM l) := ⟨_, rfl⟩
  obtain ⟨A, hAe⟩ : ∃ A, A = ofM l := ⟨_, rfl⟩
  rw [← hFe] at FC KC BC2 h1
  rw [← hAe] at BC FC CC
  have h1' : ¬ (F.length : Int) ≤ 3000 := by omega
  clear hA hwA hzF hF hFe hAe h0 h1 hq
  have hzt := sz_flt t
  have FT := Lib.hid (fun W (hb : Bl w W) => flat_ok t vt P hw k0 W (ht.of_bl hb))
  obtain ⟨G, hG⟩ : ∃ G, G = fltL t := ⟨_, rfl⟩
  rw [← hG] at FT k1
  have k1' : (3000 : Int) < (G.length : Int) := by omega
  clear hzt hG k0 k1 ht hl
  clear hz hw
  go_enter Tryz.func4, Tryz.ntmps4
  go_wp2_with (first
    | (go_at_call 7; (with_reducible refine (GC.out _ hE hM).mono ?_); rintro e w1 ⟨rfl, hb1⟩; have hE1 := hE.of_bl hb1; have hM1 := hM.of_bl hb1)
    | (go_at_call 9; (with_reducible refine (TC.out _ hE1 hM1).mono ?_); rintro e w2 ⟨rfl, hb2⟩; have hb12 := hb1.trans hb2)
    | (go_at_call 6; (with_reducible refine (BC.out _ hb12).mono ?_); clear BC; rintro e w3 ⟨v1, rfl, ⟨Q1, hN1⟩, hb3⟩; have hb13 := hb12.trans hb3)
    | (go_at_call 10; (with_reducible refine (FC.out _ _ _ hN1).mono ?_); clear FC; rintro e w4 ⟨a4, c4, rfl, hT4, hb4⟩; have hb14 := hb13.trans hb4; have hN14 := hN1.of_bl hb4)
    | (go_at_call 11; (with_reducible refine (CC.out _ _ _ hN14).mono ?_); clear CC; rintro e w5 ⟨rfl, hb5⟩; have hb15 := hb14.trans hb5; have hT5 := hT4.of_bl hb5; have hN15 := hN14.of_bl hb5)
    | (go_at_call 12; (with_reducible refine (KC.out _ _ hT5).mono ?_); clear KC; rintro e w6 ⟨rfl, hb6⟩; have hb16 := hb15.trans hb6; have hT6 := hT5.of_bl hb6; have hN16 := hN15.of_bl hb6)
    | (go_at_call 6; (with_reducible refine (BC2.out _ _ hT6).mono ?_); clear BC2; rintro e w7 ⟨v7, rfl, hb7⟩; have hbX := hb16.trans hb7)
    | (go_at_call 10; (with_reducible refine (FT.out _ hbX).mono ?_); clear FT; rintro e w9 ⟨a9, c9, rfl, hT9, hb9⟩; have hbY := hbX.trans hb9))
  go_ret
  exact ⟨rfl, hbY⟩
theorem treeBack_c (l : List Tok) (t : List Nd) (v vt : Value) (P : Nat → Prop) (hz : szT l ≤ 9000000) (hw : wtL t ≤ 9000000) (w : World) (hE : ES w) (hM : ML w) (hl : TkS w v l) (ht : NdS w P vt t) :
    Calls Tryz.prog 4 #[v, vt] w fun e w' => e = .returned (.bool true) ∧ Bl w w' := by
  by_cases h0 : ckE l = 0
  · by_cases h1 : (fltL (ofM l)).length ≤ 3000
    · by_cases k0 : ckT t = 0
      · by_cases k1 : (fltL t).length ≤ 3000
        · exact treeBack_11 l t v vt P hz hw h0 h1 k0 k1 w hE hM hl ht
        · exact treeBack_12 l t v vt P hz hw h0 h1 k0 (by omega) w hE hM hl ht
      · exact treeBack_10 l t v vt P hz hw h0 h1 k0 w hE hM hl ht
    · by_cases k0 : ckT t = 0
      · by_cases k1 : (fltL t).length ≤ 3000
        · exact treeBack_21 l t v vt P hz hw h0 (by omega) k0 k1 w hE hM hl ht
        · exact treeBack_22 l t v vt P hz hw h0 (by omega) k0 (by omega) w hE hM hl ht
      · exact treeBack_20 l t v vt P hz hw h0 (by omega) k0 w hE hM hl ht
  · by_cases k0 : ckT t = 0
    · by_cases k1 : (fltL t).length ≤ 3000
      · exact treeBack_01 l t v vt P hz hw h0 k0 k1 w hE hM hl ht
      · exact treeBack_02 l t v vt P hz hw h0 k0 (by omega) w hE hM hl ht
    · exact treeBack_00 l t v vt P hz hw h0 k0 w hE hM hl ht
end Go.Proofs.YtlhodanmccpkdaaGreatDoor

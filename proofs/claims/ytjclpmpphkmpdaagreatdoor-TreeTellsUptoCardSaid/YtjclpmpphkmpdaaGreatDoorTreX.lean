/- Trees: Check and Flat; what must be in any case. -/
import Derived.Test.YtjclpmpphkmpdaaGreatDoorTreT
import Derived.Test.YtjclpmpphkmpdaaGreatDoorTreV
import Derived.Test.YtjclpmpphkmpdaaGreatDoorGrpU
import Derived.Test.YtjclpmpphkmpdaaGreatDoorGrpT
namespace Go.Proofs.YtjclpmpphkmpdaaGreatDoor
open Go.RowKit

set_option maxHeartbeats 2000000 in
theorem check_t (l : List Nd) (v : Value) (P : Nat → Prop) (w : World) (hl : wtL l ≤ 9000000) (hA : NdS w P v l) :
    Calls Tryz.prog 12 #[v] w fun e w' => e = .returned (.int .i64 (ckT l)) ∧ Bl w w' := by
  have hc := wt_cnt l
  have SC := Lib.hid (fun W (hb : Bl w W) => size_c 8 l v P W (by omega) (by omega) (hA.of_bl hb))
  have KC := Lib.hid (fun W (hb : Bl w W) => chk_c 9500000 l [] v (.slice none 0 0) P W (by omega) (by simp) (hA.of_bl hb) ⟨none, 0, rfl, Nat.le_refl _, fun i hi => absurd hi (by simp)⟩)
  have h1 := many_le l 8
  have h2 := deep_bd l 8
  obtain ⟨m, hm⟩ : ∃ m, m = manyL 8 l := ⟨_, rfl⟩
  obtain ⟨d, hd⟩ : ∃ d, d = deepL 8 l := ⟨_, rfl⟩
  have HT := Lib.hid (show ckT l = if 3000 < m ∨ 8 < d then 2 else ckL [] false l by unfold ckT; rw [hm, hd])
  rw [← hm, ← hd] at SC
  rw [← hm] at h1
  rw [← hd] at h2
  rw [show ((8 : Nat) : Int) = 8 from rfl] at SC
  clear hm hd hA
  by_cases c1 : 3000 < m
  · have HR := Lib.hid (show ckT l = 2 by rw [HT.out, if_pos (.inl c1)])
    have c1' : (3000 : Int) < (m : Int) := by omega
    go_enter Tryz.func12, Tryz.ntmps12
    go_wp2_with (go_at_call 31; (with_reducible refine (SC.out _ (Bl.refl _)).mono ?_); rintro e w1 ⟨rfl, hb1⟩)
    go_ret
    exact ⟨ret_int HR.out.symm, hb1⟩
  by_cases c2 : 8 < d
  · have HR := Lib.hid (show ckT l = 2 by rw [HT.out, if_pos (.inr c2)])
    have c1' : ¬ (3000 : Int) < (m : Int) := by omega
    have c2' : (8 : Int) < (d : Int) := by omega
    go_enter Tryz.func12, Tryz.ntmps12
    go_wp2_with (go_at_call 31; (with_reducible refine (SC.out _ (Bl.refl _)).mono ?_); rintro e w1 ⟨rfl, hb1⟩)
    go_ret
    exact ⟨ret_int HR.out.symm, hb1⟩
  · have HR := Lib.hid (show ckT l = ckL [] false l by rw [HT.out, if_neg (by omega)])
    have c1' : ¬ (3000 : Int) < (m : Int) := by omega
    have c2' : ¬ (8 : Int) < (d : Int) := by omega
    go_enter Tryz.func12, Tryz.ntmps12
    go_wp2_with (first | (go_at_call 31; (with_reducible refine (SC.out _ (Bl.refl _)).mono ?_); rintro e w1 ⟨rfl, hb1⟩) | (go_at_call 32; (with_reducible refine (KC.out _ hb1).mono ?_); rintro e w2 ⟨rfl, hb2⟩))
    go_ret
    exact ⟨ret_int HR.out.symm, hb1.trans hb2⟩
/-- What Flat answers. -/
def flT (l : List Nd) : List Tok := if ckT l = 0 then fltL l else []
set_option maxHeartbeats 1000000 in
theorem flat_c (l : List Nd) (v : Value) (P : Nat → Prop) (w : World) (hl : wtL l ≤ 9000000) (hA : NdS w P v l) :
    Calls Tryz.prog 5 #[v] w fun e w' => ∃ v', e = .returned (.tuple #[v', .int .i64 (ckT l)]) ∧ TkS w' v' (flT l) ∧ Bl w w' := by
  have CC := Lib.hid (fun W (hb : Bl w W) => check_t l v P W hl (hA.of_bl hb))
  by_cases h0 : ckT l = 0
  · have OC := Lib.hid (fun W (hb : Bl w W) => toks_c 9500000 l v P W (by omega) (by omega) (hA.of_bl hb))
    have HB := Lib.hid (show flT l = fltL l by unfold flT; rw [if_pos h0])
    have HE := Lib.hid h0
    rw [h0] at CC
    clear hA h0
    go_enter Tryz.func5, Tryz.ntmps5
    go_wp2_with (first | (go_at_call 12; (with_reducible refine (CC.out _ (Bl.refl _)).mono ?_); rintro e w1 ⟨rfl, hb1⟩) | (go_at_call 17; (with_reducible refine (OC.out _ hb1).mono ?_); rintro e w2 ⟨v2, rfl, hN, hb2⟩))
    go_ret2
    exact ⟨v2, by rw [HE.out]; rfl, by rw [HB.out]; exact hN.tks, hb1.trans hb2⟩
  · have HB := Lib.hid (show flT l = [] by unfold flT; rw [if_neg h0])
    obtain ⟨q, hq⟩ : ∃ q, q = ckT l := ⟨_, rfl⟩
    rw [← hq] at h0 CC ⊢
    have hq2 : (q != 0) = true := by simpa using h0
    have hq3 : (q == 0) = false := by simpa using h0
    clear hA h0 hq
    go_enter Tryz.func5, Tryz.ntmps5
    go_wp2_with (go_at_call 12; (with_reducible refine (CC.out _ (Bl.refl _)).mono ?_); rintro e w1 ⟨rfl, hb1⟩)
    go_ret2
    exact ⟨_, rfl, by rw [HB.out]; exact TkS.nil _, hb1⟩
theorem bgT1 (W : World) (h1 : ES W) (h2 : ML W) :
    Calls Tryz.prog 26 #[.string ⟨#[60, 112, 62, 97, 60, 98, 114, 62, 60, 117, 108, 62, 60, 108, 105, 62, 98, 60, 108, 105, 62, 99, 60, 47, 120, 62]⟩] W fun e w' => ∃ v, e = .returned (.tuple #[v, .int .i64 0]) ∧ TkS w' v (rdT trd) ∧ Bl W w' := by
  have r := read_c trd W h1 h2
  rw [tg1] at r
  exact r
theorem bgT2 (v : Value) (W : World) (h : TkS W v (rdT trd)) :
    Calls Tryz.prog 4 #[v] W fun e w' => ∃ v', e = .returned (.tuple #[v', .int .i64 0]) ∧ (∃ Q, NdS w' Q v' pgL) ∧ Bl W w' := by
  have r := build_c (rdT trd) v W h (Sm_of _ tg7) tg8 tg9
  rw [tg2, tg4] at r
  exact r
theorem bgT3 (v : Value) (P : Nat → Prop) (W : World) (h : NdS W P v pgL) :
    Calls Tryz.prog 5 #[v] W fun e w' => ∃ a c, e = .returned (.tuple #[.slice a 12 c, .int .i64 0]) ∧ Bl W w' := by
  have h10 := tg10
  refine (flat_c pgL v P W (by omega) h).mono fun e w' ⟨v', he, hT, hb⟩ => ?_
  rw [show flT pgL = fltL pgL by unfold flT; rw [if_pos tg5]] at hT
  obtain ⟨a, c, e2, -⟩ := hT
  rw [tg6] at e2
  rw [tg5, e2] at he
  exact ⟨a, c, he, hb⟩
theorem bgT4 (v : Value) (P : Nat → Prop) (W : World) (h : NdS W P v pgL) :
    Calls Tryz.prog 12 #[v] W fun e w' => e = .returned (.int .i64 0) ∧ Bl W w' := by
  have h10 := tg10
  have r := check_t pgL v P W (by omega) h
  rw [tg5] at r
  exact r
theorem bgT5 (va vb : Value) (P Q : Nat → Prop) (W : World) (ha : NdS W P va pgL) (hb : NdS W Q vb pgL) :
    Calls Tryz.prog 28 #[va, vb] W fun e w' => e = .returned (.bool true) ∧ Qt W w' := by
  have h10 := tg10
  have r := sameNodes_c 1000 pgL pgL va vb P Q W (by omega) (by omega) ha hb
  rw [sameL_self] at r
  exact r
set_option maxRecDepth 100000 in
set_option maxHeartbeats 2000000 in
theorem treeBegun_c (w : World) (hE : ES w) (hM : ML w) :
    Calls Tryz.prog 10 #[] w fun e w' => e = .returned (.bool true) ∧ Bl w w' := by
  go_enter Tryz.func10, Tryz.ntmps10
  go_upto_region 4 with (first
    | (go_at_call 26; (with_reducible refine (bgT1 _ hE hM).mono ?_); rintro e w1 ⟨v1, rfl, hT1, hb1⟩)
    | (go_at_call 4; (with_reducible refine (bgT2 _ _ hT1).mono ?_); rintro e w2 ⟨v2, rfl, ⟨Q2, hN2⟩, hb2⟩; have hb12 := hb1.trans hb2)
    | (go_at_call 27; (with_reducible refine (page_c _).mono ?_); rintro e w3 ⟨v3, rfl, ⟨Q3, hN3⟩, hb3⟩; have hb13 := hb12.trans hb3)
    | (go_at_call 5; (with_reducible refine (bgT3 _ _ _ hN3).mono ?_); rintro e w4 ⟨a4, c4, rfl, hb4⟩; have hb14 := hb13.trans hb4; have hN24 := (hN2.of_bl hb3).of_bl hb4))
  go_wp2_with (first
    | (go_at_call 12; (with_reducible refine (bgT4 _ _ _ hN5).mono ?_); rintro e w6 ⟨rfl, hb6⟩)
    | (go_at_call 28; (with_reducible refine (bgT5 _ _ _ _ _ (((hN24.of_bl hb5).of_bl hb6).of_bl hb7) hN7).mono ?_); rintro e w8 ⟨rfl, hb8⟩)
    | (go_at_call 27; (with_reducible refine (page_c w4).mono ?_); rintro e w5 ⟨v5, rfl, ⟨Q5, hN5⟩, hb5⟩)
    | (go_at_call 27; (with_reducible refine (page_c _).mono ?_); rintro e w7 ⟨v7, rfl, ⟨Q7, hN7⟩, hb7⟩))
  go_ret
  exact ⟨rfl, hb14.trans (hb5.trans (hb6.trans (hb7.trans hb8.bl)))⟩
end Go.Proofs.YtjclpmpphkmpdaaGreatDoor

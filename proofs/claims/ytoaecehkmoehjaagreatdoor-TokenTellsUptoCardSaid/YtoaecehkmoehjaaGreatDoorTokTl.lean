/- Tokens: the law TokenTells (printed by gen_toktells.py). -/
import Derived.Test.YtoaecehkmoehjaaGreatDoorTokBk
import Derived.Test.YtoaecehkmoehjaaGreatDoorTokRf
import Derived.Test.YtoaecehkmoehjaaGreatDoorTokRb
import Derived.Test.YtoaecehkmoehjaaGreatDoorTokRh
namespace Go.Proofs.YtoaecehkmoehjaaGreatDoor
open Go.RowKit

theorem tooL_no {s : List UInt8} (h : s.length ≤ 3000) : tooL s = 0 := by unfold tooL; rw [if_neg (by omega)]
theorem tooL_yes {s : List UInt8} (h : 3000 < s.length) : tooL s = 2 := by unfold tooL; rw [if_pos h]
theorem TkS.none (w : World) : TkS w (.slice none 0 0) [] := ⟨_, _, rfl, fun i h => by simp at h⟩
theorem TkS.empty (w : World) (ao : Option Addr) (c : Nat) : TkS w (.slice ao 0 c) [] := ⟨_, _, rfl, fun i h => by simp at h⟩

set_option maxRecDepth 100000 in
set_option maxHeartbeats 4000000 in
theorem tokenTellsA (s : List UInt8) (l : List Tok) (v : Value) (hs : s.length ≤ 3000) (h0 : ckE l = 0) (hz : szT l ≤ 1099511627776) (w : World) (hE : ES w) (hM : ML w) (hl : TkS w v l) :
    Calls Tryz.prog 3 #[.string ⟨s.toArray⟩, v] w fun e w' => e = .returned (.bool true) ∧ Bl w w' := by
  have R1 := Lib.hid (fun W h m => read_l s (TokL s) hs rfl W h m)
  have TL := Lib.hid (tooL_no hs)
  have T1 := Lib.hid (fun W => tokensOf_c s (by omega) W)
  have S1 := Lib.hid (fun va vb W ha hb => same_l (TokL s) (TokL_sz s (by omega)) va vb W ha hb)
  have P1 := Lib.hid (fun W h => print_ok l v h0 hz W h)
  have B1 := Lib.hid (fun W h => tokenBytes_c l v hz (ckE_kinds h0) W h)
  have C1 := Lib.hid (fun W h => checkTokens_c l v (Sm_of l hz) W h)
  have C2 := Lib.hid (fun W h => check_c l v (Sm_of l hz) W h)
  have TC := Lib.hid (fun W => tooLong_c s W)
  rw [TL.out] at TC
  rw [h0] at C1 C2
  obtain ⟨p, hpe⟩ : ∃ p, p = tksW l := ⟨_, rfl⟩
  rw [← hpe] at P1 B1
  clear h0 hpe hs
  go_enter Tryz.func3, Tryz.ntmps3
  go_wp2_with (first
    | (go_at_call 7; (with_reducible refine (R1.out _ hE hM).mono ?_); rintro e w1 ⟨v1, rfl, hT1, hb1⟩; have hl1 := hl.of_bl hb1)
    | (go_at_call 8; (with_reducible refine (P1.out _ hl1).mono ?_); rintro e w2 ⟨rfl, hb2⟩; have hl2 := hl1.of_bl hb2; have hT2 := hT1.of_bl hb2; have hb12 := hb1.trans hb2)
    | (go_at_call 9; (with_reducible refine (TC.out _).mono ?_); rintro e w9 ⟨rfl, rfl⟩)
    | (go_at_call 10; (with_reducible refine (C1.out _ hl2).mono ?_); rintro e w3 ⟨rfl, hb3⟩; have hl3 := hl2.of_bl hb3; have hT3 := hT2.of_bl hb3; have hb13 := hb12.trans hb3)
    | (go_at_call 11; (with_reducible refine (T1.out _).mono ?_); rintro e w4 ⟨v4, rfl, hK4, hb4⟩; have hl4 := hl3.of_bl hb4; have hT4 := hT3.of_bl hb4; have hb14 := hb13.trans hb4)
    | (go_at_call 12; (with_reducible refine (B1.out _ hl4).mono ?_); rintro e w5 ⟨rfl, hb5⟩; have hl5 := hl4.of_bl hb5; have hT5 := hT4.of_bl hb5; have hK5 := hK4.of_bl hb5; have hb15 := hb14.trans hb5)
    | (go_at_call 13; (with_reducible refine (tokenBegun_c _ (hE.of_bl hb15) (hM.of_bl hb15)).mono ?_); rintro e w6 ⟨rfl, hb6⟩; have hl6 := hl5.of_bl hb6; have hT6 := hT5.of_bl hb6; have hb16 := hb15.trans hb6; have hK6 := hK5.of_bl hb6)
    | (go_at_call 14; (with_reducible refine (C2.out _ hl6).mono ?_); rintro e w7 ⟨rfl, hb7⟩; have hT7 := hT6.of_bl hb7; have hb17 := hb16.trans hb7; have hK7 := hK6.of_bl hb7)
    | (go_at_call 15; (with_reducible refine (S1.out _ _ _ hT7 hK7).mono ?_); rintro e w8 ⟨rfl, hb8⟩))
  go_ret
  exact ⟨ret_bool (by simp), hb17.trans hb8.bl⟩
set_option maxRecDepth 100000 in
set_option maxHeartbeats 4000000 in
theorem tokenTellsB (s : List UInt8) (l : List Tok) (v : Value) (hs : s.length ≤ 3000) (h0 : ckE l ≠ 0) (hz : szT l ≤ 1099511627776) (w : World) (hE : ES w) (hM : ML w) (hl : TkS w v l) :
    Calls Tryz.prog 3 #[.string ⟨s.toArray⟩, v] w fun e w' => e = .returned (.bool true) ∧ Bl w w' := by
  have R1 := Lib.hid (fun W h m => read_l s (TokL s) hs rfl W h m)
  have TL := Lib.hid (tooL_no hs)
  have T1 := Lib.hid (fun W => tokensOf_c s (by omega) W)
  have S1 := Lib.hid (fun va vb W ha hb => same_l (TokL s) (TokL_sz s (by omega)) va vb W ha hb)
  have P1 := Lib.hid (fun W h => print_no l v h0 hz W h)
  have C1 := Lib.hid (fun W h => checkTokens_c l v (Sm_of l hz) W h)
  have C2 := Lib.hid (fun W h => check_c l v (Sm_of l hz) W h)
  have TC := Lib.hid (fun W => tooLong_c s W)
  rw [TL.out] at TC
  obtain ⟨c, hce⟩ : ∃ c, c = ckE l := ⟨_, rfl⟩
  rw [← hce] at P1 C1 C2 h0
  have h0' : (c == 0) = false := by simpa using h0
  clear hce h0 hs
  go_enter Tryz.func3, Tryz.ntmps3
  go_wp2_with (first
    | (go_at_call 7; (with_reducible refine (R1.out _ hE hM).mono ?_); rintro e w1 ⟨v1, rfl, hT1, hb1⟩; have hl1 := hl.of_bl hb1)
    | (go_at_call 8; (with_reducible refine (P1.out _ hl1).mono ?_); rintro e w2 ⟨rfl, hb2⟩; have hl2 := hl1.of_bl hb2; have hT2 := hT1.of_bl hb2; have hb12 := hb1.trans hb2)
    | (go_at_call 9; (with_reducible refine (TC.out _).mono ?_); rintro e w9 ⟨rfl, rfl⟩)
    | (go_at_call 10; (with_reducible refine (C1.out _ hl2).mono ?_); rintro e w3 ⟨rfl, hb3⟩; have hl3 := hl2.of_bl hb3; have hT3 := hT2.of_bl hb3; have hb13 := hb12.trans hb3)
    | (go_at_call 11; (with_reducible refine (T1.out _).mono ?_); rintro e w4 ⟨v4, rfl, hK4, hb4⟩; have hl4 := hl3.of_bl hb4; have hT4 := hT3.of_bl hb4; have hb14 := hb13.trans hb4)
    | (go_at_call 13; (with_reducible refine (tokenBegun_c _ (hE.of_bl hb14) (hM.of_bl hb14)).mono ?_); rintro e w6 ⟨rfl, hb6⟩; have hl6 := hl4.of_bl hb6; have hT6 := hT4.of_bl hb6; have hb16 := hb14.trans hb6; have hK6 := hK4.of_bl hb6)
    | (go_at_call 14; (with_reducible refine (C2.out _ hl6).mono ?_); rintro e w7 ⟨rfl, hb7⟩; have hT7 := hT6.of_bl hb7; have hb17 := hb16.trans hb7; have hK7 := hK6.of_bl hb7)
    | (go_at_call 15; (with_reducible refine (S1.out _ _ _ hT7 hK7).mono ?_); rintro e w8 ⟨rfl, hb8⟩))
  go_ret
  exact ⟨ret_bool (by simp), hb17.trans hb8.bl⟩
set_option maxRecDepth 100000 in
set_option maxHeartbeats 4000000 in
theorem tokenTellsC (s : List UInt8) (l : List Tok) (v : Value) (hs : 3000 < s.length) (h0 : ckE l = 0) (hz : szT l ≤ 1099511627776) (w : World) (hE : ES w) (hM : ML w) (hl : TkS w v l) :
    Calls Tryz.prog 3 #[.string ⟨s.toArray⟩, v] w fun e w' => e = .returned (.bool true) ∧ Bl w w' := by
  have R1 := Lib.hid (fun W h m => read_long s hs W h m)
  have TL := Lib.hid (tooL_yes hs)
  have S1 := Lib.hid (fun va vb W ha hb => same_l [] (by decide) va vb W ha hb)
  have P1 := Lib.hid (fun W h => print_ok l v h0 hz W h)
  have B1 := Lib.hid (fun W h => tokenBytes_c l v hz (ckE_kinds h0) W h)
  have C1 := Lib.hid (fun W h => checkTokens_c l v (Sm_of l hz) W h)
  have C2 := Lib.hid (fun W h => check_c l v (Sm_of l hz) W h)
  have TC := Lib.hid (fun W => tooLong_c s W)
  rw [TL.out] at TC
  rw [h0] at C1 C2
  obtain ⟨p, hpe⟩ : ∃ p, p = tksW l := ⟨_, rfl⟩
  rw [← hpe] at P1 B1
  clear h0 hpe hs
  go_enter Tryz.func3, Tryz.ntmps3
  go_wp2_with (first
    | (go_at_call 7; (with_reducible refine (R1.out _ hE hM).mono ?_); rintro e w1 ⟨ao, ac, rfl, hb1⟩; have hl1 := hl.of_bl hb1; have hT1 := TkS.empty w1 ao ac)
    | (go_at_call 8; (with_reducible refine (P1.out _ hl1).mono ?_); rintro e w2 ⟨rfl, hb2⟩; have hl2 := hl1.of_bl hb2; have hT2 := hT1.of_bl hb2; have hb12 := hb1.trans hb2)
    | (go_at_call 9; (with_reducible refine (TC.out _).mono ?_); rintro e w9 ⟨rfl, rfl⟩)
    | (go_at_call 10; (with_reducible refine (C1.out _ hl2).mono ?_); rintro e w3 ⟨rfl, hb3⟩; have hl3 := hl2.of_bl hb3; have hT3 := hT2.of_bl hb3; have hb13 := hb12.trans hb3)
    | (go_at_call 12; (with_reducible refine (B1.out _ hl3).mono ?_); rintro e w5 ⟨rfl, hb5⟩; have hl5 := hl3.of_bl hb5; have hT5 := hT3.of_bl hb5; have hb15 := hb13.trans hb5)
    | (go_at_call 13; (with_reducible refine (tokenBegun_c _ (hE.of_bl hb15) (hM.of_bl hb15)).mono ?_); rintro e w6 ⟨rfl, hb6⟩; have hl6 := hl5.of_bl hb6; have hT6 := hT5.of_bl hb6; have hb16 := hb15.trans hb6)
    | (go_at_call 14; (with_reducible refine (C2.out _ hl6).mono ?_); rintro e w7 ⟨rfl, hb7⟩; have hT7 := hT6.of_bl hb7; have hb17 := hb16.trans hb7; have hK7 := TkS.none w7)
    | (go_at_call 15; (with_reducible refine (S1.out _ _ _ hT7 hK7).mono ?_); rintro e w8 ⟨rfl, hb8⟩))
  go_ret
  exact ⟨ret_bool (by simp), hb17.trans hb8.bl⟩
set_option maxRecDepth 100000 in
set_option maxHeartbeats 4000000 in
theorem tokenTellsD (s : List UInt8) (l : List Tok) (v : Value) (hs : 3000 < s.length) (h0 : ckE l ≠ 0) (hz : szT l ≤ 1099511627776) (w : World) (hE : ES w) (hM : ML w) (hl : TkS w v l) :
    Calls Tryz.prog 3 #[.string ⟨s.toArray⟩, v] w fun e w' => e = .returned (.bool true) ∧ Bl w w' := by
  have R1 := Lib.hid (fun W h m => read_long s hs W h m)
  have TL := Lib.hid (tooL_yes hs)
  have S1 := Lib.hid (fun va vb W ha hb => same_l [] (by decide) va vb W ha hb)
  have P1 := Lib.hid (fun W h => print_no l v h0 hz W h)
  have C1 := Lib.hid (fun W h => checkTokens_c l v (Sm_of l hz) W h)
  have C2 := Lib.hid (fun W h => check_c l v (Sm_of l hz) W h)
  have TC := Lib.hid (fun W => tooLong_c s W)
  rw [TL.out] at TC
  obtain ⟨c, hce⟩ : ∃ c, c = ckE l := ⟨_, rfl⟩
  rw [← hce] at P1 C1 C2 h0
  have h0' : (c == 0) = false := by simpa using h0
  clear hce h0 hs
  go_enter Tryz.func3, Tryz.ntmps3
  go_wp2_with (first
    | (go_at_call 7; (with_reducible refine (R1.out _ hE hM).mono ?_); rintro e w1 ⟨ao, ac, rfl, hb1⟩; have hl1 := hl.of_bl hb1; have hT1 := TkS.empty w1 ao ac)
    | (go_at_call 8; (with_reducible refine (P1.out _ hl1).mono ?_); rintro e w2 ⟨rfl, hb2⟩; have hl2 := hl1.of_bl hb2; have hT2 := hT1.of_bl hb2; have hb12 := hb1.trans hb2)
    | (go_at_call 9; (with_reducible refine (TC.out _).mono ?_); rintro e w9 ⟨rfl, rfl⟩)
    | (go_at_call 10; (with_reducible refine (C1.out _ hl2).mono ?_); rintro e w3 ⟨rfl, hb3⟩; have hl3 := hl2.of_bl hb3; have hT3 := hT2.of_bl hb3; have hb13 := hb12.trans hb3)
    | (go_at_call 13; (with_reducible refine (tokenBegun_c _ (hE.of_bl hb13) (hM.of_bl hb13)).mono ?_); rintro e w6 ⟨rfl, hb6⟩; have hl6 := hl3.of_bl hb6; have hT6 := hT3.of_bl hb6; have hb16 := hb13.trans hb6)
    | (go_at_call 14; (with_reducible refine (C2.out _ hl6).mono ?_); rintro e w7 ⟨rfl, hb7⟩; have hT7 := hT6.of_bl hb7; have hb17 := hb16.trans hb7; have hK7 := TkS.none w7)
    | (go_at_call 15; (with_reducible refine (S1.out _ _ _ hT7 hK7).mono ?_); rintro e w8 ⟨rfl, hb8⟩))
  go_ret
  exact ⟨ret_bool (by simp), hb17.trans hb8.bl⟩
theorem tokenTells_c (s : List UInt8) (l : List Tok) (v : Value) (hz : szT l ≤ 1099511627776) (w : World) (hE : ES w) (hM : ML w) (hl : TkS w v l) :
    Calls Tryz.prog 3 #[.string ⟨s.toArray⟩, v] w fun e w' => e = .returned (.bool true) ∧ Bl w w' := by
  rcases Nat.lt_or_ge 3000 s.length with h | h <;> by_cases h0 : ckE l = 0
  · exact tokenTellsC s l v h h0 hz w hE hM hl
  · exact tokenTellsD s l v h h0 hz w hE hM hl
  · exact tokenTellsA s l v h h0 hz w hE hM hl
  · exact tokenTellsB s l v h h0 hz w hE hM hl
end Go.Proofs.YtoaecehkmoehjaaGreatDoor

/- Tokens: the law TokenBack (printed by gen_tokback.py). -/
import Derived.Test.YtoaecehkmoehjaaGreatDoorTokPl
import Derived.Test.YtoaecehkmoehjaaGreatDoorTokOp
import Derived.Test.YtoaecehkmoehjaaGreatDoorTokSz
namespace Go.Proofs.YtoaecehkmoehjaaGreatDoor
open Go.RowKit

theorem same_l (l : List Tok) (h : szT l ≤ 1099511627776) (va vb : Value) (w : World) (hA : TkS w va l) (hB : TkS w vb l) :
    Calls Tryz.prog 15 #[va, vb] w fun e w' => e = .returned (.bool true) ∧ Qt w w' :=
  same_self l (by have := szT_len l; omega) (fun t ht => (Sm_of l h t ht).2.1) va vb w hA hB
theorem print_ok (l : List Tok) (v : Value) (h0 : ckE l = 0) (h : szT l ≤ 1099511627776) (w : World) (hA : TkS w v l) :
    Calls Tryz.prog 8 #[v] w fun e w' => e = .returned (.tuple #[.string ⟨(tksW l).toArray⟩, .int .i64 0]) ∧ Bl w w' := by
  have r := print_c l v (Sm_of l h) (fun _ => h) w hA
  rw [if_pos h0, h0] at r
  exact r
theorem print_no (l : List Tok) (v : Value) (h0 : ckE l ≠ 0) (h : szT l ≤ 1099511627776) (w : World) (hA : TkS w v l) :
    Calls Tryz.prog 8 #[v] w fun e w' => e = .returned (.tuple #[.string ⟨#[]⟩, .int .i64 (ckE l)]) ∧ Bl w w' := by
  have r := print_c l v (Sm_of l h) (fun _ => h) w hA
  rw [if_neg h0] at r
  exact r
theorem read_long (s : List UInt8) (h : 3000 < s.length) (w : World) (hE : ES w) (hM : ML w) :
    Calls Tryz.prog 7 #[.string ⟨s.toArray⟩] w fun e w' => ∃ ao c, e = .returned (.tuple #[.slice ao 0 c, .int .i64 2]) ∧ Bl w w' := by
  refine (read_c s w hE hM).mono fun e w' ⟨v, he, hT, hb⟩ => ?_
  rw [show rdT s = [] by unfold rdT; rw [if_pos h]] at hT
  rw [show rdE s = 2 by unfold rdE; rw [if_pos h]] at he
  obtain ⟨ao, c, rfl, _⟩ := hT
  exact ⟨ao, c, he, hb⟩

set_option maxRecDepth 100000 in
set_option maxHeartbeats 4000000 in
theorem tokenBackA (s : List UInt8) (l : List Tok) (v : Value) (hss : s.length ≤ 140737488355328) (hz : szT l ≤ 1099511627776) (h0 : ckE l = 0) (hp : (tksW l).length ≤ 3000) (w : World) (hE : ES w) (hM : ML w) (hl : TkS w v l) :
    Calls Tryz.prog 4 #[.string ⟨s.toArray⟩, v] w fun e w' => e = .returned (.bool true) ∧ Bl w w' := by
  have P1 := Lib.hid (fun W h => print_ok l v h0 hz W h)
  have R1 := Lib.hid (fun W h m => read_l (tksW l) l hp (TokL_written l h0) W h m)
  have S1 := Lib.hid (fun va vb W ha hb => same_l l hz va vb W ha hb)
  obtain ⟨p, hpe⟩ : ∃ p, p = tksW l := ⟨_, rfl⟩
  rw [← hpe] at P1 R1 hp
  have hp' : ((p.length : Int) ≤ 3000) := by omega
  clear h0 hpe hp
  by_cases hs : 3000 < s.length
  · skip
    have R5 := Lib.hid (fun W h m => read_long s hs W h m)
    clear hs
    go_enter Tryz.func4, Tryz.ntmps4
    go_wp2_with (first
    | (go_at_call 13; (with_reducible refine (tokenBegun_c _ hE hM).mono ?_); rintro e w1 ⟨rfl, hb1⟩; have h1 := hE.of_bl hb1; have m1 := hM.of_bl hb1; have hl1 := hl.of_bl hb1)
    | (go_at_call 8; (with_reducible refine (P1.out _ hl1).mono ?_); clear P1; rintro e w2 ⟨rfl, hb2⟩; have h2 := h1.of_bl hb2; have m2 := m1.of_bl hb2; have hl2 := hl1.of_bl hb2)
    | (go_at_call 7; (with_reducible refine (R1.out _ h2 m2).mono ?_); clear R1; rintro e w3 ⟨v3, rfl, hT3, hb3⟩; have h3' := h2.of_bl hb3; have m3' := m2.of_bl hb3; have hl3 := hl2.of_bl hb3)
    | (go_at_call 15; (with_reducible refine (S1.out _ _ _ hT3 hl3).mono ?_); clear S1; rintro e w4 ⟨rfl, hb4⟩; have h3 := h3'.of_bl hb4.bl; have m3 := m3'.of_bl hb4.bl; have hb13 := hb1.trans (hb2.trans (hb3.trans hb4.bl)))
    | (go_at_call 7; (with_reducible refine (R5.out _ h3 m3).mono ?_); clear R5; rintro e w5 ⟨ao, c, rfl, hb5⟩))
    go_ret
    exact ⟨rfl, hb13.trans hb5⟩
  by_cases hq : 3000 < (tksW (TokL s)).length
  · skip
    have R5 := Lib.hid (fun W h m => read_l s _ (by omega) rfl W h m)
    have P2 := Lib.hid (fun v W h => print_ok (TokL s) v (TokL_ck s (by omega)) (TokL_sz s (by omega)) W h)
    have hQL := tksW_len (TokL s)
    have hQZ := TokL_sz s (by omega)
    obtain ⟨q, hqe⟩ : ∃ q, q = tksW (TokL s) := ⟨_, rfl⟩
    rw [← hqe] at P2 hq hQL
    have hq' : (3000 : Int) < (q.length : Int) := by omega
    clear hs hqe hq
    go_enter Tryz.func4, Tryz.ntmps4
    go_wp2_with (first
    | (go_at_call 13; (with_reducible refine (tokenBegun_c _ hE hM).mono ?_); rintro e w1 ⟨rfl, hb1⟩; have h1 := hE.of_bl hb1; have m1 := hM.of_bl hb1; have hl1 := hl.of_bl hb1)
    | (go_at_call 8; (with_reducible refine (P1.out _ hl1).mono ?_); clear P1; rintro e w2 ⟨rfl, hb2⟩; have h2 := h1.of_bl hb2; have m2 := m1.of_bl hb2; have hl2 := hl1.of_bl hb2)
    | (go_at_call 7; (with_reducible refine (R1.out _ h2 m2).mono ?_); clear R1; rintro e w3 ⟨v3, rfl, hT3, hb3⟩; have h3' := h2.of_bl hb3; have m3' := m2.of_bl hb3; have hl3 := hl2.of_bl hb3)
    | (go_at_call 15; (with_reducible refine (S1.out _ _ _ hT3 hl3).mono ?_); clear S1; rintro e w4 ⟨rfl, hb4⟩; have h3 := h3'.of_bl hb4.bl; have m3 := m3'.of_bl hb4.bl; have hb13 := hb1.trans (hb2.trans (hb3.trans hb4.bl)))
    | (go_at_call 7; (with_reducible refine (R5.out _ h3 m3).mono ?_); clear R5; rintro e w5 ⟨v5, rfl, hT5, hb5⟩)
    | (go_at_call 8; (with_reducible refine (P2.out _ _ hT5).mono ?_); clear P2; rintro e w6 ⟨rfl, hb6⟩))
    go_ret
    exact ⟨rfl, hb13.trans (hb5.trans hb6)⟩
  · skip
    have R5 := Lib.hid (fun W h m => read_l s _ (by omega) rfl W h m)
    have P2 := Lib.hid (fun v W h => print_ok (TokL s) v (TokL_ck s (by omega)) (TokL_sz s (by omega)) W h)
    have R6 := Lib.hid (fun W h m => read_l (tksW (TokL s)) (TokL s) (by omega) (TokL_written _ (TokL_ck s (by omega))) W h m)
    have S2 := Lib.hid (fun va vb W ha hb => same_l (TokL s) (TokL_sz s (by omega)) va vb W ha hb)
    obtain ⟨q, hqe⟩ : ∃ q, q = tksW (TokL s) := ⟨_, rfl⟩
    rw [← hqe] at P2 hq R6
    have hq' : ¬ (3000 : Int) < (q.length : Int) := by omega
    clear hs hqe hq
    go_enter Tryz.func4, Tryz.ntmps4
    go_wp2_with (first
    | (go_at_call 13; (with_reducible refine (tokenBegun_c _ hE hM).mono ?_); rintro e w1 ⟨rfl, hb1⟩; have h1 := hE.of_bl hb1; have m1 := hM.of_bl hb1; have hl1 := hl.of_bl hb1)
    | (go_at_call 8; (with_reducible refine (P1.out _ hl1).mono ?_); clear P1; rintro e w2 ⟨rfl, hb2⟩; have h2 := h1.of_bl hb2; have m2 := m1.of_bl hb2; have hl2 := hl1.of_bl hb2)
    | (go_at_call 7; (with_reducible refine (R1.out _ h2 m2).mono ?_); clear R1; rintro e w3 ⟨v3, rfl, hT3, hb3⟩; have h3' := h2.of_bl hb3; have m3' := m2.of_bl hb3; have hl3 := hl2.of_bl hb3)
    | (go_at_call 15; (with_reducible refine (S1.out _ _ _ hT3 hl3).mono ?_); clear S1; rintro e w4 ⟨rfl, hb4⟩; have h3 := h3'.of_bl hb4.bl; have m3 := m3'.of_bl hb4.bl; have hb13 := hb1.trans (hb2.trans (hb3.trans hb4.bl)))
    | (go_at_call 7; (with_reducible refine (R5.out _ h3 m3).mono ?_); clear R5; rintro e w5 ⟨v5, rfl, hT5, hb5⟩; have h5 := h3.of_bl hb5; have m5 := m3.of_bl hb5)
    | (go_at_call 8; (with_reducible refine (P2.out _ _ hT5).mono ?_); clear P2; rintro e w6 ⟨rfl, hb6⟩; have h6 := h5.of_bl hb6; have m6 := m5.of_bl hb6; have hT56 := hT5.of_bl hb6)
    | (go_at_call 7; (with_reducible refine (R6.out _ h6 m6).mono ?_); clear R6; rintro e w7 ⟨v7, rfl, hT7, hb7⟩; have hT57 := hT56.of_bl hb7)
    | (go_at_call 15; (with_reducible refine (S2.out _ _ _ hT7 hT57).mono ?_); rintro e w8 ⟨rfl, hb8⟩))
    go_ret
    exact ⟨rfl, hb13.trans (hb5.trans (hb6.trans (hb7.trans hb8.bl)))⟩
set_option maxRecDepth 100000 in
set_option maxHeartbeats 4000000 in
theorem tokenBackB (s : List UInt8) (l : List Tok) (v : Value) (hss : s.length ≤ 140737488355328) (hz : szT l ≤ 1099511627776) (h0 : ckE l = 0) (hp : 3000 < (tksW l).length) (w : World) (hE : ES w) (hM : ML w) (hl : TkS w v l) :
    Calls Tryz.prog 4 #[.string ⟨s.toArray⟩, v] w fun e w' => e = .returned (.bool true) ∧ Bl w w' := by
  have P1 := Lib.hid (fun W h => print_ok l v h0 hz W h)
  have hPL := tksW_len l
  obtain ⟨p, hpe⟩ : ∃ p, p = tksW l := ⟨_, rfl⟩
  rw [← hpe] at P1 hp hPL
  have hp' : ¬ ((p.length : Int) ≤ 3000) := by omega
  have hp2 : decide ((p.length : Int) ≤ 3000) = false := by simpa using hp'
  clear h0 hpe hp hp'
  by_cases hs : 3000 < s.length
  · skip
    have R5 := Lib.hid (fun W h m => read_long s hs W h m)
    clear hs
    go_enter Tryz.func4, Tryz.ntmps4
    go_wp2_with (first
    | (go_at_call 13; (with_reducible refine (tokenBegun_c _ hE hM).mono ?_); rintro e w1 ⟨rfl, hb1⟩; have h1 := hE.of_bl hb1; have m1 := hM.of_bl hb1; have hl1 := hl.of_bl hb1)
    | (go_at_call 8; (with_reducible refine (P1.out _ hl1).mono ?_); clear P1; rintro e w2 ⟨rfl, hb2⟩; have h3 := h1.of_bl hb2; have m3 := m1.of_bl hb2; have hb13 := hb1.trans hb2)
    | (go_at_call 7; (with_reducible refine (R5.out _ h3 m3).mono ?_); clear R5; rintro e w5 ⟨ao, c, rfl, hb5⟩))
    go_ret
    exact ⟨rfl, hb13.trans hb5⟩
  by_cases hq : 3000 < (tksW (TokL s)).length
  · skip
    have R5 := Lib.hid (fun W h m => read_l s _ (by omega) rfl W h m)
    have P2 := Lib.hid (fun v W h => print_ok (TokL s) v (TokL_ck s (by omega)) (TokL_sz s (by omega)) W h)
    have hQL := tksW_len (TokL s)
    have hQZ := TokL_sz s (by omega)
    obtain ⟨q, hqe⟩ : ∃ q, q = tksW (TokL s) := ⟨_, rfl⟩
    rw [← hqe] at P2 hq hQL
    have hq' : (3000 : Int) < (q.length : Int) := by omega
    clear hs hqe hq
    go_enter Tryz.func4, Tryz.ntmps4
    go_wp2_with (first
    | (go_at_call 13; (with_reducible refine (tokenBegun_c _ hE hM).mono ?_); rintro e w1 ⟨rfl, hb1⟩; have h1 := hE.of_bl hb1; have m1 := hM.of_bl hb1; have hl1 := hl.of_bl hb1)
    | (go_at_call 8; (with_reducible refine (P1.out _ hl1).mono ?_); clear P1; rintro e w2 ⟨rfl, hb2⟩; have h3 := h1.of_bl hb2; have m3 := m1.of_bl hb2; have hb13 := hb1.trans hb2)
    | (go_at_call 7; (with_reducible refine (R5.out _ h3 m3).mono ?_); clear R5; rintro e w5 ⟨v5, rfl, hT5, hb5⟩)
    | (go_at_call 8; (with_reducible refine (P2.out _ _ hT5).mono ?_); clear P2; rintro e w6 ⟨rfl, hb6⟩))
    go_ret
    exact ⟨rfl, hb13.trans (hb5.trans hb6)⟩
  · skip
    have R5 := Lib.hid (fun W h m => read_l s _ (by omega) rfl W h m)
    have P2 := Lib.hid (fun v W h => print_ok (TokL s) v (TokL_ck s (by omega)) (TokL_sz s (by omega)) W h)
    have R6 := Lib.hid (fun W h m => read_l (tksW (TokL s)) (TokL s) (by omega) (TokL_written _ (TokL_ck s (by omega))) W h m)
    have S2 := Lib.hid (fun va vb W ha hb => same_l (TokL s) (TokL_sz s (by omega)) va vb W ha hb)
    obtain ⟨q, hqe⟩ : ∃ q, q = tksW (TokL s) := ⟨_, rfl⟩
    rw [← hqe] at P2 hq R6
    have hq' : ¬ (3000 : Int) < (q.length : Int) := by omega
    clear hs hqe hq
    go_enter Tryz.func4, Tryz.ntmps4
    go_wp2_with (first
    | (go_at_call 13; (with_reducible refine (tokenBegun_c _ hE hM).mono ?_); rintro e w1 ⟨rfl, hb1⟩; have h1 := hE.of_bl hb1; have m1 := hM.of_bl hb1; have hl1 := hl.of_bl hb1)
    | (go_at_call 8; (with_reducible refine (P1.out _ hl1).mono ?_); clear P1; rintro e w2 ⟨rfl, hb2⟩; have h3 := h1.of_bl hb2; have m3 := m1.of_bl hb2; have hb13 := hb1.trans hb2)
    | (go_at_call 7; (with_reducible refine (R5.out _ h3 m3).mono ?_); clear R5; rintro e w5 ⟨v5, rfl, hT5, hb5⟩; have h5 := h3.of_bl hb5; have m5 := m3.of_bl hb5)
    | (go_at_call 8; (with_reducible refine (P2.out _ _ hT5).mono ?_); clear P2; rintro e w6 ⟨rfl, hb6⟩; have h6 := h5.of_bl hb6; have m6 := m5.of_bl hb6; have hT56 := hT5.of_bl hb6)
    | (go_at_call 7; (with_reducible refine (R6.out _ h6 m6).mono ?_); clear R6; rintro e w7 ⟨v7, rfl, hT7, hb7⟩; have hT57 := hT56.of_bl hb7)
    | (go_at_call 15; (with_reducible refine (S2.out _ _ _ hT7 hT57).mono ?_); rintro e w8 ⟨rfl, hb8⟩))
    go_ret
    exact ⟨rfl, hb13.trans (hb5.trans (hb6.trans (hb7.trans hb8.bl)))⟩
set_option maxRecDepth 100000 in
set_option maxHeartbeats 4000000 in
theorem tokenBackC (s : List UInt8) (l : List Tok) (v : Value) (hss : s.length ≤ 140737488355328) (hz : szT l ≤ 1099511627776) (h0 : ckE l ≠ 0) (w : World) (hE : ES w) (hM : ML w) (hl : TkS w v l) :
    Calls Tryz.prog 4 #[.string ⟨s.toArray⟩, v] w fun e w' => e = .returned (.bool true) ∧ Bl w w' := by
  have P1 := Lib.hid (fun W h => print_no l v h0 hz W h)
  obtain ⟨c, hce⟩ : ∃ c, c = ckE l := ⟨_, rfl⟩
  rw [← hce] at P1 h0
  have h0' : (c == 0) = false := by simpa using h0
  clear hce h0
  by_cases hs : 3000 < s.length
  · skip
    have R5 := Lib.hid (fun W h m => read_long s hs W h m)
    clear hs
    go_enter Tryz.func4, Tryz.ntmps4
    go_wp2_with (first
    | (go_at_call 13; (with_reducible refine (tokenBegun_c _ hE hM).mono ?_); rintro e w1 ⟨rfl, hb1⟩; have h1 := hE.of_bl hb1; have m1 := hM.of_bl hb1; have hl1 := hl.of_bl hb1)
    | (go_at_call 8; (with_reducible refine (P1.out _ hl1).mono ?_); clear P1; rintro e w2 ⟨rfl, hb2⟩; have h3 := h1.of_bl hb2; have m3 := m1.of_bl hb2; have hb13 := hb1.trans hb2)
    | (go_at_call 7; (with_reducible refine (R5.out _ h3 m3).mono ?_); clear R5; rintro e w5 ⟨ao, c, rfl, hb5⟩))
    go_ret
    exact ⟨rfl, hb13.trans hb5⟩
  by_cases hq : 3000 < (tksW (TokL s)).length
  · skip
    have R5 := Lib.hid (fun W h m => read_l s _ (by omega) rfl W h m)
    have P2 := Lib.hid (fun v W h => print_ok (TokL s) v (TokL_ck s (by omega)) (TokL_sz s (by omega)) W h)
    have hQL := tksW_len (TokL s)
    have hQZ := TokL_sz s (by omega)
    obtain ⟨q, hqe⟩ : ∃ q, q = tksW (TokL s) := ⟨_, rfl⟩
    rw [← hqe] at P2 hq hQL
    have hq' : (3000 : Int) < (q.length : Int) := by omega
    clear hs hqe hq
    go_enter Tryz.func4, Tryz.ntmps4
    go_wp2_with (first
    | (go_at_call 13; (with_reducible refine (tokenBegun_c _ hE hM).mono ?_); rintro e w1 ⟨rfl, hb1⟩; have h1 := hE.of_bl hb1; have m1 := hM.of_bl hb1; have hl1 := hl.of_bl hb1)
    | (go_at_call 8; (with_reducible refine (P1.out _ hl1).mono ?_); clear P1; rintro e w2 ⟨rfl, hb2⟩; have h3 := h1.of_bl hb2; have m3 := m1.of_bl hb2; have hb13 := hb1.trans hb2)
    | (go_at_call 7; (with_reducible refine (R5.out _ h3 m3).mono ?_); clear R5; rintro e w5 ⟨v5, rfl, hT5, hb5⟩)
    | (go_at_call 8; (with_reducible refine (P2.out _ _ hT5).mono ?_); clear P2; rintro e w6 ⟨rfl, hb6⟩))
    go_ret
    exact ⟨rfl, hb13.trans (hb5.trans hb6)⟩
  · skip
    have R5 := Lib.hid (fun W h m => read_l s _ (by omega) rfl W h m)
    have P2 := Lib.hid (fun v W h => print_ok (TokL s) v (TokL_ck s (by omega)) (TokL_sz s (by omega)) W h)
    have R6 := Lib.hid (fun W h m => read_l (tksW (TokL s)) (TokL s) (by omega) (TokL_written _ (TokL_ck s (by omega))) W h m)
    have S2 := Lib.hid (fun va vb W ha hb => same_l (TokL s) (TokL_sz s (by omega)) va vb W ha hb)
    obtain ⟨q, hqe⟩ : ∃ q, q = tksW (TokL s) := ⟨_, rfl⟩
    rw [← hqe] at P2 hq R6
    have hq' : ¬ (3000 : Int) < (q.length : Int) := by omega
    clear hs hqe hq
    go_enter Tryz.func4, Tryz.ntmps4
    go_wp2_with (first
    | (go_at_call 13; (with_reducible refine (tokenBegun_c _ hE hM).mono ?_); rintro e w1 ⟨rfl, hb1⟩; have h1 := hE.of_bl hb1; have m1 := hM.of_bl hb1; have hl1 := hl.of_bl hb1)
    | (go_at_call 8; (with_reducible refine (P1.out _ hl1).mono ?_); clear P1; rintro e w2 ⟨rfl, hb2⟩; have h3 := h1.of_bl hb2; have m3 := m1.of_bl hb2; have hb13 := hb1.trans hb2)
    | (go_at_call 7; (with_reducible refine (R5.out _ h3 m3).mono ?_); clear R5; rintro e w5 ⟨v5, rfl, hT5, hb5⟩; have h5 := h3.of_bl hb5; have m5 := m3.of_bl hb5)
    | (go_at_call 8; (with_reducible refine (P2.out _ _ hT5).mono ?_); clear P2; rintro e w6 ⟨rfl, hb6⟩; have h6 := h5.of_bl hb6; have m6 := m5.of_bl hb6; have hT56 := hT5.of_bl hb6)
    | (go_at_call 7; (with_reducible refine (R6.out _ h6 m6).mono ?_); clear R6; rintro e w7 ⟨v7, rfl, hT7, hb7⟩; have hT57 := hT56.of_bl hb7)
    | (go_at_call 15; (with_reducible refine (S2.out _ _ _ hT7 hT57).mono ?_); rintro e w8 ⟨rfl, hb8⟩))
    go_ret
    exact ⟨rfl, hb13.trans (hb5.trans (hb6.trans (hb7.trans hb8.bl)))⟩
theorem tokenBack_c (s : List UInt8) (l : List Tok) (v : Value) (hss : s.length ≤ 140737488355328) (hz : szT l ≤ 1099511627776) (w : World) (hE : ES w) (hM : ML w) (hl : TkS w v l) :
    Calls Tryz.prog 4 #[.string ⟨s.toArray⟩, v] w fun e w' => e = .returned (.bool true) ∧ Bl w w' := by
  by_cases h0 : ckE l = 0
  · by_cases hp : (tksW l).length ≤ 3000
    · exact tokenBackA s l v hss hz h0 hp w hE hM hl
    · exact tokenBackB s l v hss hz h0 (by omega) w hE hM hl
  · exact tokenBackC s l v hss hz h0 w hE hM hl
end Go.Proofs.YtoaecehkmoehjaaGreatDoor

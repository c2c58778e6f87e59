/- EscapeTells: the walk of the law. -/
import Derived.Test.YtlaafdahahpkfaaGreatDoorEscO
import Derived.Test.YtlaafdahahpkfaaGreatDoorEscL
namespace Go.Proofs.YtlaafdahahpkfaaGreatDoor
open Go.RowKit

set_option maxRecDepth 100000 in
set_option maxHeartbeats 4000000 in
theorem escapeTells_c (l : List UInt8) (w : World) (hE : ES w) :
    Calls Tryz.prog 3 #[.string ⟨l.toArray⟩] w fun e w' => e = .returned (.bool true) ∧ Bl w w' := by
  have p1 := fun W => Put_c l W
  have p2 := fun W hW => Take_c l W hW
  have p3 := fun W hW => Strict_c l W hW
  have p4 := fun W => tooLong_c l W
  by_cases h : 3000 < l.length
  · rw [show tooL l = 2 by unfold tooL; rw [if_pos h], show short l (PutL l) = [] by unfold short; rw [if_pos h]] at p1
    rw [show tooL l = 2 by unfold tooL; rw [if_pos h], show short l (Tk l).1 = [] by unfold short; rw [if_pos h]] at p2
    rw [show strT l = [] by unfold strT; rw [if_pos h], show strE l = 2 by unfold strE; rw [if_pos h]] at p3
    rw [show tooL l = 2 by unfold tooL; rw [if_pos h]] at p4
    have P1 := Lib.hid p1
    have P2 := Lib.hid p2
    have P3 := Lib.hid p3
    have P4 := Lib.hid p4
    clear p1 p2 p3 p4 h
    go_enter Tryz.func3, Tryz.ntmps3
    go_wp2_with (first | (go_at_call 6; (with_reducible refine (P1.out _).mono ?_); rintro e w1 ⟨rfl, hb1⟩; have h1 := hE.of_bl hb1) | (go_at_call 7; (with_reducible refine (P2.out _ h1).mono ?_); rintro e w3 ⟨rfl, hb3⟩; have h3 := h1.of_bl hb3) | (go_at_call 8; (with_reducible refine (P3.out _ h3).mono ?_); rintro e w4 ⟨rfl, hb4⟩; have h4 := h3.of_bl hb4) | (go_at_call 9; (with_reducible refine (P4.out _).mono ?_); rintro e w5 ⟨rfl, rfl⟩) | (go_at_call 12; (with_reducible refine (begun_c _ h4).mono ?_); rintro e w6 ⟨rfl, hb6⟩))
    go_ret
    exact ⟨rfl, hb1.trans (hb3.trans (hb4.trans hb6))⟩
  rw [show tooL l = 0 by unfold tooL; rw [if_neg h], show short l (PutL l) = PutL l by unfold short; rw [if_neg h]] at p1
  rw [show tooL l = 0 by unfold tooL; rw [if_neg h], show short l (Tk l).1 = (Tk l).1 by unfold short; rw [if_neg h]] at p2
  rw [show tooL l = 0 by unfold tooL; rw [if_neg h]] at p4
  have p5 := fun W => putOf_c l (by omega) W
  have p6 := fun W => takeOf_c l (by omega) W
  unfold strT strE at p3
  rw [if_neg h, if_neg h] at p3
  obtain ⟨d, hd⟩ : ∃ d, d = Tk l := ⟨_, rfl⟩
  rw [← hd] at p2 p3 p6
  obtain ⟨t, ok⟩ := d
  simp only [] at p2 p3 p6
  obtain ⟨P, hP⟩ : ∃ P, P = PutL l := ⟨_, rfl⟩
  rw [← hP] at p1 p5
  clear hd hP
  have P1 := Lib.hid p1
  have P2 := Lib.hid p2
  have P4 := Lib.hid p4
  have P5 := Lib.hid p5
  have P6 := Lib.hid p6
  cases ok
  all_goals
    simp only [if_true, Bool.false_eq_true, if_false] at p3
    have P3 := Lib.hid p3
    clear p1 p2 p3 p4 p5 p6 h
    go_enter Tryz.func3, Tryz.ntmps3
    go_wp2_with (first | (go_at_call 6; (with_reducible refine (P1.out _).mono ?_); rintro e w1 ⟨rfl, hb1⟩; have h1 := hE.of_bl hb1) | (go_at_call 7; (with_reducible refine (P2.out _ h1).mono ?_); rintro e w3 ⟨rfl, hb3⟩; have h3 := h1.of_bl hb3) | (go_at_call 8; (with_reducible refine (P3.out _ h3).mono ?_); rintro e w4 ⟨rfl, hb4⟩; have h4 := h3.of_bl hb4) | (go_at_call 9; (with_reducible refine (P4.out _).mono ?_); rintro e w5 ⟨rfl, rfl⟩) | (go_at_call 10; (with_reducible refine (P5.out _).mono ?_); rintro e w5 ⟨rfl, rfl⟩) | (go_at_call 11; (with_reducible refine (P6.out _).mono ?_); rintro e w5 ⟨rfl, hb5⟩; have h5 := h4.of_bl hb5) | (go_at_call 12; (with_reducible refine (begun_c _ h5).mono ?_); rintro e w6 ⟨rfl, hb6⟩))
    go_ret
    exact ⟨rfl, hb1.trans (hb3.trans (hb4.trans (hb5.trans hb6)))⟩
end Go.Proofs.YtlaafdahahpkfaaGreatDoor

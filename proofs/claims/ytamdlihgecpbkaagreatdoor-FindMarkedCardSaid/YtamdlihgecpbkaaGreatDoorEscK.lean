/- escape.Take, Strict; what must be in any case; signs that are put are taken as they were. -/
import Derived.Test.YtamdlihgecpbkaaGreatDoorGrpD
set_option maxRecDepth 100000
set_option maxHeartbeats 1000000
namespace Go.Proofs.YtamdlihgecpbkaaGreatDoor
open Go.RowKit
theorem Take_c (l : List UInt8) (w : World) (hE : ES w) :
 Calls Tryz.prog 41 #[.string ⟨l.toArray⟩] w fun e w' => e = .returned (.tuple #[.string ⟨(short l (Tk l).1).toArray⟩, .int .i64 (tooL l)]) ∧ Bl w w' := by
 by_cases h : 3000 < l.length
 · have h' : decide (3000 < l.length) = true := by simpa using h
   have HT := Lib.hid (show tooL l = 2 by unfold tooL; rw [if_pos h]); have HI := Lib.hid (show short l (Tk l).1 = [] by unfold short; rw [if_pos h]); clear h; go_enter Tryz.func41, Tryz.ntmps41; go_wp2_with (go_at_call 70; refine (long_c _ _).mono ?_; rintro e w' ⟨rfl, rfl⟩); go_ret2; exact ⟨by rw [HT.out, HI.out]; rfl, Bl.refl _⟩
 · have h' : decide (3000 < l.length) = false := by simpa using h
   have HT := Lib.hid (show tooL l = 0 by unfold tooL; rw [if_neg h]); have HI := Lib.hid (show short l (Tk l).1 = (Tk l).1 by unfold short; rw [if_neg h]); have TC := Lib.hid (fun W hW => taken_c l (by omega) W hW); clear h; go_enter Tryz.func41, Tryz.ntmps41; go_wp2_with (first | (go_at_call 70; refine (long_c _ _).mono ?_; rintro e w' ⟨rfl, rfl⟩) | (go_at_call 72; (with_reducible refine (TC.out _ hE).mono ?_); rintro e w' ⟨rfl, hb⟩) | go_quiet (fail)); go_ret2; exact ⟨by rw [HT.out, HI.out]; rfl, hb⟩
def strT (l : List UInt8) : List UInt8 := if 3000 < l.length then [] else if (Tk l).2 then (Tk l).1 else []
def strE (l : List UInt8) : Int := if 3000 < l.length then 2 else if (Tk l).2 then 0 else 1
theorem Strict_c (l : List UInt8) (w : World) (hE : ES w) :
 Calls Tryz.prog 42 #[.string ⟨l.toArray⟩] w fun e w' => e = .returned (.tuple #[.string ⟨(strT l).toArray⟩, .int .i64 (strE l)]) ∧ Bl w w' := by
 by_cases h : 3000 < l.length
 · have h' : decide (3000 < l.length) = true := by simpa using h
   have HT := Lib.hid (show strE l = 2 by unfold strE; rw [if_pos h]); have HI := Lib.hid (show strT l = [] by unfold strT; rw [if_pos h]); clear h; go_enter Tryz.func42, Tryz.ntmps42; go_wp2_with (go_at_call 70; refine (long_c _ _).mono ?_; rintro e w' ⟨rfl, rfl⟩); go_ret2; exact ⟨by rw [HT.out, HI.out]; rfl, Bl.refl _⟩
 · have h' : decide (3000 < l.length) = false := by simpa using h
   have TC := Lib.hid (fun W hW => taken_c l (by omega) W hW); have HL := Lib.hid h; cases h2 : (Tk l).2
   · have HT := Lib.hid (show strE l = 1 by unfold strE; rw [if_neg h, h2]; rfl); have HI := Lib.hid (show strT l = [] by unfold strT; rw [if_neg h, h2]; rfl); clear h; go_enter Tryz.func42, Tryz.ntmps42; go_wp2_with (first | (go_at_call 70; refine (long_c _ _).mono ?_; rintro e w' ⟨rfl, rfl⟩) | (go_at_call 72; (with_reducible refine (TC.out _ hE).mono ?_); rintro e w' ⟨rfl, hb⟩) | go_quiet (fail)); go_ret2; exact ⟨by rw [HT.out, HI.out]; rfl, hb⟩
   · have HT := Lib.hid (show strE l = 0 by unfold strE; rw [if_neg h, h2]; rfl); have HI := Lib.hid (show strT l = (Tk l).1 by unfold strT; rw [if_neg h, h2]; rfl); clear h; go_enter Tryz.func42, Tryz.ntmps42; go_wp2_with (first | (go_at_call 70; refine (long_c _ _).mono ?_; rintro e w' ⟨rfl, rfl⟩) | (go_at_call 72; (with_reducible refine (TC.out _ hE).mono ?_); rintro e w' ⟨rfl, hb⟩) | go_quiet (fail)); go_ret2; exact ⟨by rw [HT.out, HI.out]; rfl, hb⟩
theorem bg1 : short [60, 97, 32, 38, 32, 39, 98, 39, 62] (PutL [60, 97, 32, 38, 32, 39, 98, 39, 62]) = [38, 108, 116, 59, 97, 32, 38, 97, 109, 112, 59, 32, 39, 98, 39, 38, 103, 116, 59] ∧ tooL [60, 97, 32, 38, 32, 39, 98, 39, 62] = 0 := by decide +kernel
theorem bg2 : short [38, 108, 116, 59, 38, 35, 54, 53, 59, 38, 35, 120, 50, 48, 97, 67, 59, 38, 97, 109, 112, 59, 38, 110, 111, 59, 38, 35, 48, 59] (Tk [38, 108, 116, 59, 38, 35, 54, 53, 59, 38, 35, 120, 50, 48, 97, 67, 59, 38, 97, 109, 112, 59, 38, 110, 111, 59, 38, 35, 48, 59]).1 = [60, 65, 226, 130, 172, 38, 38, 110, 111, 59, 239, 191, 189] ∧ tooL [38, 108, 116, 59, 38, 35, 54, 53, 59, 38, 35, 120, 50, 48, 97, 67, 59, 38, 97, 109, 112, 59, 38, 110, 111, 59, 38, 35, 48, 59] = 0 := by decide +kernel
theorem bg3 : strE [38, 110, 111, 59] = 1 := by decide +kernel
theorem bg4 : strT [38, 97, 112, 111, 115, 59] = [39] ∧ strE [38, 97, 112, 111, 115, 59] = 0 := by decide +kernel
theorem begun_c (w : World) (hE : ES w) : Calls Tryz.prog 16 #[] w fun e w' => e = .returned (.bool true) ∧ Bl w w' := by
 have p1 := fun W => Put_c [60, 97, 32, 38, 32, 39, 98, 39, 62] W
 have p2 := fun W hW => Take_c [38, 108, 116, 59, 38, 35, 54, 53, 59, 38, 35, 120, 50, 48, 97, 67, 59, 38, 97, 109, 112, 59, 38, 110, 111, 59, 38, 35, 48, 59] W hW
 have p3 := fun W hW => Strict_c [38, 110, 111, 59] W hW
 have p4 := fun W hW => Strict_c [38, 97, 112, 111, 115, 59] W hW
 rw [bg1.1, bg1.2] at p1; rw [bg2.1, bg2.2] at p2; rw [bg3] at p3; rw [bg4.1, bg4.2] at p4; have P1 := Lib.hid p1; have P2 := Lib.hid p2; have P3 := Lib.hid p3; have P4 := Lib.hid p4; clear p1 p2 p3 p4; go_enter Tryz.func16, Tryz.ntmps16; go_wp2_with (first | (go_at_call 40; (with_reducible refine (P1.out _).mono ?_); rintro e w1 ⟨rfl, hb1⟩; have h1 := hE.of_bl hb1) | (go_at_call 41; (with_reducible refine (P2.out _ h1).mono ?_); rintro e w2 ⟨rfl, hb2⟩; have h2 := h1.of_bl hb2) | (go_at_call 42; (with_reducible refine (P3.out _ h2).mono ?_); rintro e w3 ⟨rfl, hb3⟩; have h3 := h2.of_bl hb3) | (go_at_call 42; (with_reducible refine (P4.out _ h3).mono ?_); rintro e w4 ⟨rfl, hb4⟩) | go_quiet (fail)); go_ret; exact ⟨rfl, by repeat (first | exact Bl.refl _ | assumption | refine Bl.drewN ?_ _ | refine Bl.trans ?_ (by assumption))⟩
end Go.Proofs.YtamdlihgecpbkaaGreatDoor

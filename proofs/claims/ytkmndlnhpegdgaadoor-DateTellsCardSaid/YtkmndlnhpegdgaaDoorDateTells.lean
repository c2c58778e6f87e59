/- DateTells: the walk of the law. -/
import Derived.Test.YtkmndlnhpegdgaaDoorDateH
import Derived.Test.YtkmndlnhpegdgaaDoorDateMailWalk
import Derived.Test.YtkmndlnhpegdgaaDoorDateEq2
namespace Go.Proofs.YtkmndlnhpegdgaaDoor
open Go.RowKit

theorem mailOf_c (l : List UInt8) (hl : l.length ≤ 9223372036854775807) (w : World) :
    Calls Tryd.prog 11 #[.string ⟨l.toArray⟩] w fun e w' => e = MailT l ∧ Bl w w' := by
  rw [MailT_body]
  by_cases hb : (mailBody l).length ≤ 1
  · exact mailOf_short l _ hl (Lib.hid rfl) hb w
  · have hb1 : 1 < (mailBody l).length := by omega
    cases hc : (((mailBody l)[1].toNat : Int) == 32)
    · exact mailOf_two l _ hl (Lib.hid rfl) hb1 hc w
    · exact mailOf_one l _ hl (Lib.hid rfl) hb1 hc w

set_option maxRecDepth 100000 in
set_option maxHeartbeats 4000000 in
theorem dateTells_c (l : List UInt8) (hl : l.length ≤ 9223372036854775807) (a : Int) (w : World) (hT : TI w) :
    Calls Tryd.prog 3 #[.string ⟨l.toArray⟩, .int .i64 a] w fun e w' => e = .returned (.bool true) ∧ Bl w w' := by
  obtain ⟨v1, x1, q1, -, -⟩ := web_ans l
  obtain ⟨v2, x2, q2, -, -⟩ := mail_ans l
  have cw := fun W => web_c l hl W
  have cm := fun W => mail_c l hl W
  have rw' := fun W => webOf_c l hl W
  have rm := fun W => mailOf_c l hl W
  rw [← web_eq, q1] at rw'
  rw [← mail_eq, q2] at rm
  rw [q1] at cw
  rw [q2] at cm
  have CW := Lib.hid cw
  have CM := Lib.hid cm
  have RW := Lib.hid rw'
  have RM := Lib.hid rm
  clear cw cm rw' rm q1 q2
  obtain ⟨xa, ta, pa⟩ := print_all a
  have PA := Lib.hid pa.call
  rcases pa.ans with ⟨hv, rfl, y, m, d, n, hD, ht⟩ | ⟨hv, rfl, rfl⟩
  · have dd : ∀ W, Calls Tryd.prog 12 #[.int .i64 a] W fun e w' => e = .returned (.string ⟨ta.toArray⟩) ∧ Bl W w' := fun W => by
      rw [ht]; exact dateOf_c y m d n a hD.y0 (by have := hD.y1; omega) hD.m0 hD.m1 hD.d0 hD.d1 hD.n0 hD.n1 hD.eq W
    have DD := Lib.hid dd
    obtain ⟨v3, v4⟩ := hv
    clear dd ht hD pa
    go_enter Tryd.func3, Tryd.ntmps3
    go_wp2_with (first | (go_at_call 13; refine (begun_c _ (by assumption)).mono ?_; rintro e w' ⟨rfl, hb'⟩; have ht := TI.of_bl (by assumption) hb') | (go_at_call 9; (with_reducible refine (PA.out _ (by assumption)).mono ?_); rintro e w' ⟨rfl, hb'⟩; have ht := TI.of_bl (by assumption) hb') | (go_at_call 7; (with_reducible refine (CW.out _).mono ?_); rintro e w' ⟨rfl, hb'⟩; have ht := TI.of_bl (by assumption) hb') | (go_at_call 8; (with_reducible refine (CM.out _).mono ?_); rintro e w' ⟨rfl, hb'⟩; have ht := TI.of_bl (by assumption) hb') | (go_at_call 10; (with_reducible refine (RW.out _).mono ?_); rintro e w' ⟨rfl, hb'⟩; have ht := TI.of_bl (by assumption) hb'.bl; have hb2 := hb'.bl) | (go_at_call 11; (with_reducible refine (RM.out _).mono ?_); rintro e w' ⟨rfl, hb'⟩; have ht := TI.of_bl (by assumption) hb') | (go_at_call 12; (with_reducible refine (DD.out _).mono ?_); rintro e w' ⟨rfl, hb'⟩; have ht := TI.of_bl (by assumption) hb') | go_quiet (fail))
    go_ret
    exact ⟨ret_bool (by simp), by repeat (first | exact Bl.refl _ | assumption | refine Bl.trans ?_ (by assumption))⟩
  · clear pa
    rcases hv with hv | hv
    all_goals
      go_enter Tryd.func3, Tryd.ntmps3
      go_wp2_with (first | (go_at_call 13; refine (begun_c _ (by assumption)).mono ?_; rintro e w' ⟨rfl, hb'⟩; have ht := TI.of_bl (by assumption) hb') | (go_at_call 9; (with_reducible refine (PA.out _ (by assumption)).mono ?_); rintro e w' ⟨rfl, hb'⟩; have ht := TI.of_bl (by assumption) hb') | (go_at_call 7; (with_reducible refine (CW.out _).mono ?_); rintro e w' ⟨rfl, hb'⟩; have ht := TI.of_bl (by assumption) hb') | (go_at_call 8; (with_reducible refine (CM.out _).mono ?_); rintro e w' ⟨rfl, hb'⟩; have ht := TI.of_bl (by assumption) hb') | (go_at_call 10; (with_reducible refine (RW.out _).mono ?_); rintro e w' ⟨rfl, hb'⟩; have ht := TI.of_bl (by assumption) hb'.bl; have hb2 := hb'.bl) | (go_at_call 11; (with_reducible refine (RM.out _).mono ?_); rintro e w' ⟨rfl, hb'⟩; have ht := TI.of_bl (by assumption) hb') | go_quiet (fail))
      go_ret
      exact ⟨ret_bool (by simp), by repeat (first | exact Bl.refl _ | assumption | refine Bl.trans ?_ (by assumption))⟩
end Go.Proofs.YtkmndlnhpegdgaaDoor

/- dateBegun returns true; Print where there is nothing to print. -/
import Derived.Test.YtkmndlnhpegdgaaDoorDateLaw
namespace Go.Proofs.YtkmndlnhpegdgaaDoor
open Go.RowKit

theorem begun1 : WebP [50, 48, 48, 48, 45, 48, 50, 45, 50, 57, 84, 49, 50, 58, 51, 48, 58, 48, 48, 43, 48, 49, 58, 51, 48] = .returned (.tuple #[.int .i64 951822000, .int .i64 0]) := by kernel_rfl
theorem begun2 : WebP [49, 57, 57, 57, 45, 48, 50, 45, 50, 57, 84, 48, 48, 58, 48, 48, 58, 48, 48, 90] = .returned (.tuple #[.int .i64 0, .int .i64 3]) := by kernel_rfl
theorem begun3 : MailP [84, 117, 101, 44, 32, 50, 57, 32, 70, 101, 98, 32, 50, 48, 48, 48, 32, 49, 49, 58, 48, 48, 58, 48, 48, 32, 71, 77, 84] = .returned (.tuple #[.int .i64 951822000, .int .i64 0]) := by kernel_rfl
theorem begun4 : DateG 2000 2 (28 + 1) 39600 = [50, 48, 48, 48, 45, 48, 50, 45, 50, 57, 84, 49, 49, 58, 48, 48, 58, 48, 48, 90] := by kernel_rfl
theorem begun5 : IsDate 2000 2 28 39600 951822000 := ⟨by decide, by decide, by decide, by decide, by decide, by decide, by decide, by decide, by decide +kernel⟩

theorem print_bad (at' : Int) (h : at' < 0 ∨ 4102444799 < at') (w : World) :
    Calls Tryd.prog 9 #[.int .i64 at'] w fun e w' => e = .returned (.tuple #[.string ⟨[].toArray⟩, .int .i64 3]) ∧ w = w' := by
  rcases h with h | h
  · go_enter Tryd.func9, Tryd.ntmps9
    go_wp2
    go_ret2
    exact ⟨rfl, rfl⟩
  · have h0 : 0 ≤ at' := by omega
    go_enter Tryd.func9, Tryd.ntmps9
    go_wp2
    go_ret2
    exact ⟨rfl, rfl⟩

theorem print_951 (w : World) (hT : TI w) :
    Calls Tryd.prog 9 #[.int .i64 951822000] w fun e w' => e = .returned (.tuple #[.string ⟨([50, 48, 48, 48, 45, 48, 50, 45, 50, 57, 84, 49, 49, 58, 48, 48, 58, 48, 48, 90] : List UInt8).toArray⟩, .int .i64 0]) ∧ Bl w w' := by
  have h := print_c 2000 2 28 39600 951822000 begun5 w hT
  rw [show DateG ((2000 : Nat) : Int) ((2 : Nat) : Int) (28 + 1) 39600 = [50, 48, 48, 48, 45, 48, 50, 45, 50, 57, 84, 49, 49, 58, 48, 48, 58, 48, 48, 90] from begun4] at h
  exact h

theorem begun_c (w : World) (hT : TI w) : Calls Tryd.prog 13 #[] w fun e w' => e = .returned (.bool true) ∧ Bl w w' := by
  go_enter Tryd.func13, Tryd.ntmps13
  go_wp2_with (first | (go_at_call 7; refine (web_c _ (by decide) _).mono ?_; rintro e w' ⟨he, hb⟩; (first | rw [begun1] at he | rw [begun2] at he); subst he; have ht := TI.of_bl (by assumption) hb) | (go_at_call 8; refine (mail_c _ (by decide) _).mono ?_; rintro e w' ⟨he, hb⟩; rw [begun3] at he; subst he; have ht := TI.of_bl (by assumption) hb) | (go_at_call 9; refine (print_951 _ (by assumption)).mono ?_; rintro e w' ⟨rfl, hb⟩; have ht := TI.of_bl (by assumption) hb))
  go_ret
  refine ⟨rfl, by repeat (first | exact Bl.refl _ | assumption | refine Bl.trans ?_ (by assumption))⟩
end Go.Proofs.YtkmndlnhpegdgaaDoor

/- The program's plain functions on dates: leap, long, ahead, days, letter. -/
import Derived.Test.YtkmndlnhpegdgaaDoorDateOf
namespace Go.Proofs.YtkmndlnhpegdgaaDoor
open Go.RowKit

theorem leap_c (y : Int) (h0 : 0 ≤ y) (h1 : y ≤ 100000) (w : World) :
    Calls Tryd.prog 34 #[.int .i64 y] w fun e w' => e = .returned (.bool (Leap y)) ∧ w = w' := by
  by_cases h4 : y % 4 = 0 <;> by_cases h100 : y % 100 = 0 <;> by_cases h400 : y % 400 = 0
  all_goals first
    | (exfalso; omega)
    | (have g : Leap y = ((y % 4 == 0) && !(y % 100 == 0) || (y % 400 == 0)) := by rw [Bool.eq_iff_iff]; simp [Leap, h4, h100, h400]
       have G := Lib.hid g
       clear g
       go_enter Tryd.func34, Tryd.ntmps34
       go_wp2
       go_ret
       exact ⟨ret_bool (by rw [G.out, Bool.eq_iff_iff]; simp [h4, h100, h400]), rfl⟩)

theorem letter_c (n : Int) (h0 : 0 ≤ n) (h1 : n ≤ 255) (w : World) :
    Calls Tryd.prog 19 #[.int .u8 n] w fun e w' => e = .returned (.bool (Ltr n)) ∧ w = w' := by
  go_enter Tryd.func19, Tryd.ntmps19
  go_wp2
  all_goals
    go_ret
    exact ⟨ret_bool (by simp [Ltr, *] <;> omega), rfl⟩

set_option maxHeartbeats 2000000 in
theorem long_c (y m : Int) (h0 : 0 ≤ y) (h1 : y ≤ 100000) (h2 : 1 ≤ m) (h3 : m ≤ 12) (w : World) :
    Calls Tryd.prog 23 #[.int .i64 y, .int .i64 m] w fun e w' => e = .returned (.int .i64 (ML y m)) ∧ Bl w w' := by
  have hm : m = 1 ∨ m = 2 ∨ m = 3 ∨ m = 4 ∨ m = 5 ∨ m = 6 ∨ m = 7 ∨ m = 8 ∨ m = 9 ∨ m = 10 ∨ m = 11 ∨ m = 12 := by omega
  rcases hm with rfl | rfl | rfl | rfl | rfl | rfl | rfl | rfl | rfl | rfl | rfl | rfl
  all_goals
    go_enter Tryd.func23, Tryd.ntmps23
    go_wp2_with (go_at_call 34; refine (leap_c _ (by omega) (by omega) _).mono ?_; rintro e w' ⟨rfl, rfl⟩)
    all_goals
      go_ret
      exact ⟨ret_int (by simp [ML, *]), by repeat (first | exact Bl.refl _ | assumption | refine Bl.alloc ?_ _ | refine Bl.drew ?_ | refine Bl.drewN ?_ _ | refine Bl.trans ?_ (by assumption))⟩

theorem ahead_step (z : Int) (h : 0 ≤ z) : 365 * (z + 1) + z / 4 - z / 100 + z / 400 + 1 + YL (z + 1) = 365 * (z + 1 + 1) + (z + 1) / 4 - (z + 1) / 100 + (z + 1) / 400 + 1 := by
  unfold YL Leap
  by_cases h1 : (z + 1) % 100 = 0
  · rw [if_pos h1]
    by_cases h2 : (z + 1) % 400 = 0
    · rw [show ((z + 1) % 400 == 0) = true by simp [h2], if_pos rfl]; omega
    · rw [show ((z + 1) % 400 == 0) = false by simp [h2], if_neg (by simp)]; omega
  · rw [if_neg h1]
    by_cases h2 : (z + 1) % 4 = 0
    · rw [show ((z + 1) % 4 == 0) = true by simp [h2], if_pos rfl]; omega
    · rw [show ((z + 1) % 4 == 0) = false by simp [h2], if_neg (by simp)]; omega
theorem ahead_law (y : Nat) : 365 * ((y : Int) + 1) + y / 4 - y / 100 + y / 400 + 1 = DB (y + 1) := by
  induction y with
  | zero => decide +kernel
  | succ y ih =>
    rw [show DB (y + 1 + 1) = DB (y + 1) + YL ((y : Int) + 1) from rfl, ← ih, ahead_step y (by omega)]; rfl

theorem ahead_c (y : Nat) (h1 : y ≤ 10001) (w : World) :
    Calls Tryd.prog 22 #[.int .i64 y] w fun e w' => e = .returned (.int .i64 (DB y)) ∧ w = w' := by
  cases y with
  | zero =>
    go_enter Tryd.func22, Tryd.ntmps22
    go_wp2
    go_ret
    exact ⟨rfl, rfl⟩
  | succ y =>
    have hx : ((y : Int) + 1 == 0) = false := by simp; omega
    have HA := Lib.hid (ahead_law y)
    go_enter Tryd.func22, Tryd.ntmps22
    go_wp2
    go_ret
    exact ⟨ret_int (by rw [← HA.out]), rfl⟩
end Go.Proofs.YtkmndlnhpegdgaaDoor

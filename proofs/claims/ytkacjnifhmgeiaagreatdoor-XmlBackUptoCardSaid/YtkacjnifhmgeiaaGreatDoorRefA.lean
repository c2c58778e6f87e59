/- The reference's small functions that the seats beside the date's share. -/
import Derived.Test.YtkacjnifhmgeiaaGreatDoorBase
namespace Go.Proofs.YtkacjnifhmgeiaaGreatDoor
open Go.RowKit

def Dg (n base : Int) : Int :=
  let v := if 48 ≤ n ∧ n ≤ 57 then n - 48 else if 97 ≤ n ∧ n ≤ 102 then n - 97 + 10 else if 65 ≤ n ∧ n ≤ 70 then n - 65 + 10 else -1
  if base ≤ v then -1 else v
theorem between_c (a b c : Int) (w : World) :
    Calls Tryz.prog 65 #[.int .i64 a, .int .i64 b, .int .i64 c] w fun e w' => e = .returned (.bool (decide (b ≤ a) && decide (a ≤ c))) ∧ w = w' := by
  go_enter Tryz.func65, Tryz.ntmps65
  go_wp2
  all_goals (go_ret; exact ⟨ret_bool (by simp [*] <;> omega), rfl⟩)
theorem digit_c (n base : Int) (h0 : 0 ≤ n) (h1 : n ≤ 255) (w : World) :
    Calls Tryz.prog 98 #[.int .u8 n, .int .i64 base] w fun e w' => e = .returned (.int .i64 (Dg n base)) ∧ w = w' := by
  go_enter Tryz.func98, Tryz.ntmps98
  go_wp2_with (go_at_call 65; refine (between_c _ _ _ _).mono ?_; rintro e w' ⟨rfl, rfl⟩)
  all_goals (go_ret; exact ⟨ret_int (by simp only [Dg]; (repeat' split) <;> omega), rfl⟩)
end Go.Proofs.YtkacjnifhmgeiaaGreatDoor

/- Signs that are put: the reference's PutOf; short walks of escape. -/
import Derived.Test.YtkacjnifhmgeiaaGreatDoorBase
namespace Go.Proofs.YtkacjnifhmgeiaaGreatDoor
open Go.RowKit

def putc (c : UInt8) : List UInt8 :=
  if (c.toNat : Int) = 38 then [38, 97, 109, 112, 59] else if (c.toNat : Int) = 60 then [38, 108, 116, 59] else if (c.toNat : Int) = 62 then [38, 103, 116, 59] else if (c.toNat : Int) = 34 then [38, 113, 117, 111, 116, 59] else [c]
def PutL (l : List UInt8) : List UInt8 := l.flatMap putc
theorem putc_len (c : UInt8) : (putc c).length ≤ 6 := by
  unfold putc; (repeat' split) <;> simp
theorem PutL_len (l : List UInt8) : (PutL l).length ≤ 6 * l.length := by
  induction l with
  | nil => simp [PutL]
  | cons c l ih => have := putc_len c; simp only [PutL, List.flatMap_cons, List.length_append, List.length_cons] at *; omega
theorem PutL_snoc (l : List UInt8) (c : UInt8) : PutL (l ++ [c]) = PutL l ++ putc c := by simp [PutL]
theorem take_one (l : List UInt8) (k : Nat) (h : k < l.length) : List.take 1 (List.drop k l) = [l[k]] := by
  rw [List.drop_eq_getElem_cons h]; rfl

set_option maxHeartbeats 1000000 in
theorem putOf_c (l : List UInt8) (hl : l.length ≤ 1099511627776) (w : World) :
    Calls Tryz.prog 24 #[.string ⟨l.toArray⟩] w fun e w' => e = .returned (.string ⟨(PutL l).toArray⟩) ∧ w = w' := by
  go_enter Tryz.func24, Tryz.ntmps24
  go_wp2
  go_loop [3, 4] (fun o i => ∃ k : Nat, k ≤ l.length ∧ o = .string ⟨(PutL (l.take k)).toArray⟩ ∧ i = .int .i64 k) (fun _ i => l.length - (intOf i).toNat)
  case atStart => exact ⟨0, Nat.zero_le _, rfl, rfl⟩
  case round =>
    obtain ⟨k, hk, rfl, rfl⟩ := hrel
    by_cases hlt : k < l.length
    · have hb := u8_lt l[k]
      have hP := PutL_len (l.take k)
      have ht : (l.take k).length ≤ k := List.length_take_le _ _
      have HS := Lib.hid (PutL_snoc (l.take k) l[k])
      have HT := Lib.hid (take_snoc l k hlt)
      have hlt1 : k + 1 ≤ l.length := by omega
      have hlt2 : (k : Int) + 1 ≤ l.length := by omega
      go_wp2
      all_goals
        go_round
        case rel => exact ⟨k + 1, by omega, by rw [HT.out, HS.out]; simp_all [putc, take_one], by go_num⟩
        case measure => simp [intOf]; omega
    · go_wp2
      go_ret
      exact ⟨by rw [List.take_of_length_le (by omega)]; rfl, rfl⟩

theorem long_c (l : List UInt8) (w : World) :
    Calls Tryz.prog 32 #[.string ⟨l.toArray⟩] w fun e w' => e = .returned (.bool (decide (3000 < l.length))) ∧ w = w' := by
  go_enter Tryz.func32, Tryz.ntmps32
  go_wp2
  go_ret
  exact ⟨ret_bool (by simp <;> omega), rfl⟩
def tooL (l : List UInt8) : Int := if 3000 < l.length then 2 else 0
theorem tooLong_c (l : List UInt8) (w : World) :
    Calls Tryz.prog 8 #[.string ⟨l.toArray⟩] w fun e w' => e = .returned (.int .i64 (tooL l)) ∧ w = w' := by
  go_enter Tryz.func8, Tryz.ntmps8
  go_wp2
  all_goals
    go_ret
    exact ⟨ret_int (by unfold tooL; split <;> omega), rfl⟩
end Go.Proofs.YtkacjnifhmgeiaaGreatDoor

/- zoneOf, timeOf of the reference. -/
import Derived.Test.YtkmndlnhpegdgaaDoorDateForm
namespace Go.Proofs.YtkmndlnhpegdgaaDoor
open Go.RowKit

def ZV (g a b : Int) : Int := if g = 45 then -(60 * a + b) else 60 * a + b
def DB : Nat → Int
  | 0 => 0
  | k + 1 => DB k + YL k
def MB (y : Int) : Nat → Int
  | 0 => 0
  | k + 1 => if k = 0 then 0 else MB y k + ML y k
theorem YL_bd (y : Int) : 365 ≤ YL y ∧ YL y ≤ 366 := by unfold YL; split <;> omega
theorem ML_bd (y m : Int) : 28 ≤ ML y m ∧ ML y m ≤ 31 := by unfold ML; (repeat' split) <;> omega
theorem DB_bd (k : Nat) : 365 * k ≤ DB k ∧ DB k ≤ 366 * k := by
  induction k with
  | zero => simp [DB]
  | succ k ih => have := YL_bd k; simp only [DB]; omega
theorem MB_bd (y : Int) (k : Nat) : 0 ≤ MB y k ∧ MB y k ≤ 31 * k := by
  induction k with
  | zero => simp [MB]
  | succ k ih => have := ML_bd y k; simp only [MB]; split <;> omega
theorem MB_succ (y : Int) (k : Nat) (h : 1 ≤ k) : MB y (k + 1) = MB y k + ML y k := by simp only [MB]; rw [if_neg (by omega)]

def D70 (k : Nat) : Int := DB k - DB 1970
theorem D70_0 : D70 1970 = 0 := Int.sub_self _
theorem D70_succ (k : Nat) : D70 (k + 1) = D70 k + YL k := by unfold D70; rw [show DB (k + 1) = DB k + YL k from rfl]; omega
theorem D70_bd (k : Nat) (h : k ≤ 10000) : -800000 ≤ D70 k ∧ D70 k ≤ 4000000 := by
  have h1 := DB_bd k
  have h2 := DB_bd 1970
  unfold D70; omega
def E70 (y j : Nat) : Int := if y < 1970 then D70 y - D70 j else D70 y
theorem E70_0 (y k : Nat) (h : 1970 ≤ k) (h1 : k ≤ y ∨ k = 1970) (h2 : ¬ k < y) : D70 k = E70 y y := by
  unfold E70
  split
  · rw [show k = 1970 by omega, D70_0]; omega
  · rw [show k = y by omega]
theorem E70_succ (y j : Nat) (h : y ≤ j) (h1 : j < 1970) : E70 y (j + 1) = E70 y j - YL j := by
  unfold E70
  rw [if_pos (by omega), if_pos (by omega), D70_succ]; omega
theorem E70_end (y j : Nat) (h : y ≤ j) (h1 : j ≤ 1970 ∨ j = y) (h2 : ¬ j < 1970) : E70 y j = D70 y := by
  unfold E70
  split
  · rw [show j = 1970 by omega, D70_0]; omega
  · rfl
theorem E70_bd (y j : Nat) (h : y ≤ 9999) (h1 : j ≤ 9999) : -5000000 ≤ E70 y j ∧ E70 y j ≤ 5000000 := by
  have := D70_bd y (by omega)
  have := D70_bd j (by omega)
  unfold E70; split <;> omega
def TimeV (y m d h n s zone : Int) : Int := 86400 * (D70 y.toNat + MB y m.toNat + d - 1) + 3600 * h + 60 * n + s - 60 * zone
def TimeE (y m d h n s zone : Int) : Int :=
  if 23 < h ∨ 59 < n ∨ 59 < s then 1
  else if m < 1 ∨ 12 < m ∨ d < 1 ∨ ML y m < d then 3
  else if TimeV y m d h n s zone < 0 ∨ 4102444799 < TimeV y m d h n s zone then 3 else 0
def TimeR (y m d h n s zone : Int) : Int := if TimeE y m d h n s zone = 0 then TimeV y m d h n s zone else 0
def TimeT (y m d h n s zone : Int) : Ending := .returned (.tuple #[.int .i64 (TimeR y m d h n s zone), .int .i64 (TimeE y m d h n s zone)])
theorem tm_form {y m d h n s zone : Int} (g : 23 < h ∨ 59 < n ∨ 59 < s) : Ending.returned (.tuple #[.int .i64 0, .int .i64 1]) = TimeT y m d h n s zone := by
  simp [TimeT, TimeR, TimeE, g]
theorem tm_day {y m d h n s zone : Int} (g : ¬ (23 < h ∨ 59 < n ∨ 59 < s)) (g2 : m < 1 ∨ 12 < m ∨ d < 1 ∨ ML y m < d) : Ending.returned (.tuple #[.int .i64 0, .int .i64 3]) = TimeT y m d h n s zone := by
  simp only [TimeT, TimeR, TimeE, if_neg g, if_pos g2]; rfl
theorem tm_range {y m d h n s zone : Int} (g : ¬ (23 < h ∨ 59 < n ∨ 59 < s)) (g2 : ¬ (m < 1 ∨ 12 < m ∨ d < 1 ∨ ML y m < d)) (g3 : TimeV y m d h n s zone < 0 ∨ 4102444799 < TimeV y m d h n s zone) : Ending.returned (.tuple #[.int .i64 0, .int .i64 3]) = TimeT y m d h n s zone := by
  simp only [TimeT, TimeR, TimeE, if_neg g, if_neg g2, if_pos g3]; rfl
theorem tm_ok {y m d h n s zone v : Int} (g : ¬ (23 < h ∨ 59 < n ∨ 59 < s)) (g2 : ¬ (m < 1 ∨ 12 < m ∨ d < 1 ∨ ML y m < d)) (g3 : ¬ (TimeV y m d h n s zone < 0 ∨ 4102444799 < TimeV y m d h n s zone)) (hv : v = TimeV y m d h n s zone) : Ending.returned (.tuple #[.int .i64 v, .int .i64 0]) = TimeT y m d h n s zone := by
  subst hv; simp only [TimeT, TimeR, TimeE, if_neg g, if_neg g2, if_neg g3, if_true]

set_option maxHeartbeats 400000 in
theorem zoneOf_c (g : Int) (l m : List UInt8) (hg : 0 ≤ g) (hg1 : g ≤ 255) (hd : digs l) (hm : digs m) (hl : l.length = 2) (hm1 : m.length = 2) (w : World) :
    Calls Tryd.prog 26 #[.int .u8 g, .string ⟨l.toArray⟩, .string ⟨m.toArray⟩] w fun e w' =>
      e = .returned (.tuple #[.int .i64 (ZV g (Num l) (Num m)), .bool (decide (Num l ≤ 23) && decide (Num m ≤ 59))]) ∧ w = w' := by
  have b1 := Num_bd l hd (by omega)
  have b2 := Num_bd m hm (by omega)
  have c1 := number_c l hd (by omega) w
  have c2 := number_c m hm (by omega) w
  have C1 := Lib.hid c1
  have C2 := Lib.hid c2
  clear c1 c2
  by_cases hg2 : g = 45
  all_goals by_cases hn : Num l ≤ 23
  all_goals have HN := Lib.hid hn
  all_goals
    go_enter Tryd.func26, Tryd.ntmps26
    go_wp2_with (go_at_call 28; (first | ((with_reducible refine C1.out.mono ?_)) | ((with_reducible refine C2.out.mono ?_))); rintro e w' ⟨rfl, rfl⟩)
    all_goals
      go_ret2
      exact ⟨by simp [ZV, hg2] <;> omega, rfl⟩

set_option maxRecDepth 100000 in
set_option maxHeartbeats 400000 in
theorem timeOf_c (yn : Nat) (m d z : Int) (l : List UInt8) (hy1 : yn ≤ 9999) (hm : 0 ≤ m) (hm1 : m ≤ 99) (hd0 : 0 ≤ d) (hd1 : d ≤ 99) (hz : -1440 ≤ z) (hz1 : z ≤ 1440)
    (hl : l.length = 8) (g1 : digs (l.take 2)) (g2 : digs ((l.drop 3).take 2)) (g3 : digs (l.drop 6)) (w : World) :
    Calls Tryd.prog 27 #[.int .i64 (yn : Int), .int .i64 m, .int .i64 d, .string ⟨l.toArray⟩, .int .i64 z] w fun e w' =>
      e = TimeT yn m d (Num (l.take 2)) (Num ((l.drop 3).take 2)) (Num (l.drop 6)) z ∧ Qt w w' := by
  have b1 := Num_bd _ g1 (by simp; omega)
  have b2 := Num_bd _ g2 (by simp; omega)
  have b3 := Num_bd _ g3 (by simp; omega)
  have HL := Lib.hid hl
  have hl1 : 8 ≤ l.length := by omega
  have hl2 : l.length ≤ 8 := by omega
  clear hl
  have i1 : (2 : Int) ≤ (l.length : Int) := by omega
  have i2 : (5 : Int) ≤ (l.length : Int) := by omega
  have i3 : (6 : Int) ≤ (l.length : Int) := by omega
  go_enter Tryd.func27, Tryd.ntmps27
  go_wp2_with fail
  go_quiet ((go_at_call 28; exact quiet_eq (number_c _ (by assumption) (by simp <;> omega) _)))
  go_wp2_with (first | (go_at_call 38; refine (between_c _ _ _ _).mono ?_; rintro e w' ⟨rfl, rfl⟩) | (go_at_call 30; refine (monthLong_c _ _ (by omega) (by omega) _).mono ?_; rintro e w' ⟨rfl, rfl⟩))
  all_goals first
    | (go_ret2; exact ⟨tm_form (by omega), _, rfl⟩)
    | (go_ret2; exact ⟨tm_day (by omega) (by omega), _, rfl⟩)
    | skip
  have HA := Lib.hid ‹(Num (List.take 2 l) ≤ 23 ∧ Num (List.take 2 (List.drop 3 l)) ≤ 59) ∧ Num (List.drop 6 l) ≤ 59›
  have HB := Lib.hid ‹1 ≤ m ∧ m ≤ 12›
  have HC := Lib.hid ‹1 ≤ d ∧ d ≤ ML yn m›
  go_loop [15, 16] (fun t i => ∃ k : Nat, 1970 ≤ k ∧ (k ≤ yn ∨ k = 1970) ∧ t = .int .i64 (D70 k) ∧ i = .int .i64 k) (fun _ i => yn - (intOf i).toNat)
  case atStart => exact ⟨1970, by omega, by omega, by rw [D70_0], rfl⟩
  case round =>
    obtain ⟨k, hk, hk2, rfl, rfl⟩ := hrel
    have e1 := D70_bd k (by omega)
    by_cases hlt : k < yn
    · have e2 := YL_bd k
      have HS := Lib.hid (D70_succ k)
      go_wp2_with (go_at_call 29; refine (yearLong_c _ (by omega) (by omega) _).mono ?_; rintro e w' ⟨rfl, rfl⟩)
      go_round
      case rel => exact ⟨k + 1, by omega, by omega, by rw [HS.out], by go_num⟩
      case measure => simp [intOf]; omega
    · have hlt4 : ¬ (k : Int) < yn := by omega
      have K0 := Lib.hid (E70_0 yn k hk hk2 hlt)
      clear hk hk2 e1
      go_wp2
      go_loop [15, 17] (fun t i => ∃ j : Nat, yn ≤ j ∧ (j ≤ 1970 ∨ j = yn) ∧ t = .int .i64 (E70 yn j) ∧ i = .int .i64 j) (fun _ i => 1970 - (intOf i).toNat)
      case atStart => exact ⟨yn, by omega, by omega, by rw [K0.out], rfl⟩
      case round =>
        obtain ⟨j, hj, hj2, rfl, rfl⟩ := hrel
        have e1 := E70_bd yn j (by omega) (by omega)
        by_cases hlt : j < 1970
        · have e2 := YL_bd j
          have HS := Lib.hid (E70_succ yn j hj hlt)
          go_wp2_with (go_at_call 29; refine (yearLong_c _ (by omega) (by omega) _).mono ?_; rintro e w' ⟨rfl, rfl⟩)
          go_round
          case rel => exact ⟨j + 1, by omega, by omega, by rw [HS.out], by go_num⟩
          case measure => simp [intOf]; omega
        · have hlt5 : ¬ (j : Int) < 1970 := by omega
          have K1 := Lib.hid (E70_end yn j hj hj2 hlt)
          clear hj hj2
          go_wp2
          go_loop [15, 18] (fun t i => ∃ q : Nat, 1 ≤ q ∧ q ≤ m.toNat ∧ t = .int .i64 (D70 yn + MB yn q) ∧ i = .int .i64 q) (fun _ i => m.toNat - (intOf i).toNat)
          case atStart => exact ⟨1, by omega, by have := HB.out; omega, by rw [K1.out]; simp [MB], rfl⟩
          case round =>
            obtain ⟨q, hq, hq2, rfl, rfl⟩ := hrel
            have e3 := D70_bd yn (by omega)
            have e4 := MB_bd yn q
            by_cases hlt2 : q < m.toNat
            · have e2 := ML_bd yn q
              have HS := Lib.hid (MB_succ yn q hq)
              have hlt3 : (q : Int) < m := by omega
              go_wp2_with (go_at_call 30; refine (monthLong_c _ _ (by omega) (by omega) _).mono ?_; rintro e w' ⟨rfl, rfl⟩)
              go_round
              case rel => exact ⟨q + 1, by omega, by omega, by rw [HS.out]; go_num, by go_num⟩
              case measure => simp [intOf]; omega
            · obtain rfl : q = m.toNat := by omega
              have hge : ¬ (m.toNat : Int) < m := by have := HB.out; omega
              have hV := Lib.hid (show TimeV yn m d (Num (List.take 2 l)) (Num (List.take 2 (List.drop 3 l))) (Num (List.drop 6 l)) z = 86400 * (D70 yn + MB yn m.toNat + d - 1) + 3600 * Num (List.take 2 l) + 60 * Num (List.take 2 (List.drop 3 l)) + Num (List.drop 6 l) - 60 * z from rfl)
              have hA := HA.out
              clear hlt2 hq hq2
              go_wp2_with (go_at_call 38; refine (between_c _ _ _ _).mono ?_; rintro e w' ⟨rfl, rfl⟩)
              all_goals
                go_ret2
                refine ⟨?_, _, rfl⟩
                have hB := HB.out
                have hC := HC.out
                have hv := hV.out
                simp at *
              · exact tm_range (by omega) (by omega) (by omega)
              · exact tm_ok (by omega) (by omega) (by omega) (by omega)

theorem timeOf_i (y m d z : Int) (l : List UInt8) (hy : 0 ≤ y) (hy1 : y ≤ 9999) (hm : 0 ≤ m) (hm1 : m ≤ 99) (hd0 : 0 ≤ d) (hd1 : d ≤ 99) (hz : -1440 ≤ z) (hz1 : z ≤ 1440)
    (hl : l.length = 8) (g1 : digs (l.take 2)) (g2 : digs ((l.drop 3).take 2)) (g3 : digs (l.drop 6)) (w : World) :
    Calls Tryd.prog 27 #[.int .i64 y, .int .i64 m, .int .i64 d, .string ⟨l.toArray⟩, .int .i64 z] w fun e w' =>
      e = TimeT y m d (Num (l.take 2)) (Num ((l.drop 3).take 2)) (Num (l.drop 6)) z ∧ Qt w w' := by
  obtain ⟨yn, rfl⟩ := Int.eq_ofNat_of_zero_le hy
  exact timeOf_c yn m d z l (by omega) hm hm1 hd0 hd1 hz hz1 hl g1 g2 g3 w
end Go.Proofs.YtkmndlnhpegdgaaDoor

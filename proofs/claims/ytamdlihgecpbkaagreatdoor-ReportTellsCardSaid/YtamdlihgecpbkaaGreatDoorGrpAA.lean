/- The reference's small functions on dates: each returns what its Lean function says. · number: the number that digits tell. · form: has a text signs like a form. · zoneOf, timeOf of the reference. · digitsOf, DateOf of the reference. · The program's plain functions on dates: leap, long, ahead, days, letter. -/
import Derived.Test.YtamdlihgecpbkaaGreatDoorGrpA
import Derived.Deep.RegionWith
set_option maxRecDepth 100000
set_option maxHeartbeats 2000000
namespace Go.Proofs.YtamdlihgecpbkaaGreatDoor
open Go.RowKit
def dtDg (n base : Int) : Int :=
 let v := if 48 ≤ n ∧ n ≤ 57 then n - 48 else if 97 ≤ n ∧ n ≤ 102 then n - 97 + 10 else if 65 ≤ n ∧ n ≤ 70 then n - 65 + 10 else -1
 if base ≤ v then -1 else v
def Leap (y : Int) : Bool := if y % 100 = 0 then y % 400 == 0 else y % 4 == 0
def YL (y : Int) : Int := if Leap y then 366 else 365
def dtML (y m : Int) : Int := if m = 2 then (if Leap y then 29 else 28) else if m = 4 ∨ m = 6 ∨ m = 9 ∨ m = 11 then 30 else 31
def Ltr (n : Int) : Bool := (decide (97 ≤ n) && decide (n ≤ 122)) || (decide (65 ≤ n) && decide (n ≤ 90))
theorem isLeap_c (y : Int) (h0 : 0 ≤ y) (h1 : y ≤ 100000) (w : World) :
 Calls Tryz.prog 114 #[.int .i64 y] w fun e w' => e = .returned (.bool (Leap y)) ∧ w = w' := by
 go_enter Tryz.func114, Tryz.ntmps114; go_wp2; all_goals (go_ret; exact ⟨ret_bool (by simp_all [Leap]), rfl⟩)
theorem yearLong_c (y : Int) (h0 : 0 ≤ y) (h1 : y ≤ 100000) (w : World) :
 Calls Tryz.prog 76 #[.int .i64 y] w fun e w' => e = .returned (.int .i64 (YL y)) ∧ w = w' := by
 go_enter Tryz.func76, Tryz.ntmps76; go_wp2_with (go_at_call 114; refine (isLeap_c _ (by omega) (by omega) _).mono ?_; rintro e w' ⟨rfl, rfl⟩); all_goals (go_ret; exact ⟨ret_int (by simp_all [YL]), rfl⟩)
theorem monthLong_c (y m : Int) (h0 : 0 ≤ y) (h1 : y ≤ 100000) (w : World) :
 Calls Tryz.prog 77 #[.int .i64 y, .int .i64 m] w fun e w' => e = .returned (.int .i64 (dtML y m)) ∧ w = w' := by
 go_enter Tryz.func77, Tryz.ntmps77; go_wp2_with (go_at_call 114; refine (isLeap_c _ (by omega) (by omega) _).mono ?_; rintro e w' ⟨rfl, rfl⟩); all_goals (go_ret; exact ⟨ret_int (by simp_all [dtML]), rfl⟩)
def FC (c g : Int) : Bool := if g = 100 then decide (0 ≤ dtDg c 10) else if g = 97 then Ltr c else c == g
def DB : Nat → Int
 | 0 => 0
 | k + 1 => DB k + YL k
def MB (y : Int) : Nat → Int
 | 0 => 0
 | k + 1 => if k = 0 then 0 else MB y k + dtML y k
theorem YL_bd (y : Int) : 365 ≤ YL y ∧ YL y ≤ 366 := by unfold YL; split <;> omega
theorem ML_bd (y m : Int) : 28 ≤ dtML y m ∧ dtML y m ≤ 31 := by unfold dtML; (repeat' split) <;> omega
theorem DB_bd (k : Nat) : 365 * k ≤ DB k ∧ DB k ≤ 366 * k := by
 induction k with
 | zero => simp [DB]
 | succ k ih => have := YL_bd k; simp only [DB]; omega
theorem MB_bd (y : Int) (k : Nat) : 0 ≤ MB y k ∧ MB y k ≤ 31 * k := by
 induction k with
 | zero => simp [MB]
 | succ k ih => have := ML_bd y k; simp only [MB]; split <;> omega
theorem MB_succ (y : Int) (k : Nat) (h : 1 ≤ k) : MB y (k + 1) = MB y k + dtML y k := by simp only [MB]; rw [if_neg (by omega)]
def D70 (k : Nat) : Int := DB k - DB 1970
theorem D70_0 : D70 1970 = 0 := Int.sub_self _
theorem D70_succ (k : Nat) : D70 (k + 1) = D70 k + YL k := by unfold D70; rw [show DB (k + 1) = DB k + YL k from rfl]; omega
theorem D70_bd (k : Nat) (h : k ≤ 10000) : -800000 ≤ D70 k ∧ D70 k ≤ 4000000 := by
 have h1 := DB_bd k; have h2 := DB_bd 1970; unfold D70; omega
theorem conv_byte (W : World) (b : Nat) (n : Int) (h0 : 0 ≤ n) (h1 : n ≤ 255) (hc : W.cell? ⟨b, 0, none⟩ = some (.int .u8 n)) :
 (convert 60 9 (.slice (some ⟨b, 0, none⟩) 1 1)).run Tryz.prog W = .ok (.string ⟨[UInt8.ofNat n.toNat].toArray⟩) W := by
 refine run_convert_bytes_back _ 60 9 5 ⟨b, 0, none⟩ 1 [UInt8.ofNat n.toNat] Tryz.underlying60 Tryz.underlying5 Tryz.underlying9 fun j hj => ?_
 obtain rfl : j = 0 := by simpa using hj
 have : ((UInt8.ofNat n.toNat).toNat : Int) = n := by simp [UInt8.toNat_ofNat']; omega
 simp only [Addr.add, if_true, hc, List.getElem_cons_zero, this]
def Dgs (n : Int) : Nat → List UInt8
 | 0 => []
 | k + 1 => Dgs (n / 10) k ++ [UInt8.ofNat (48 + n % 10).toNat]
theorem Dgs_len (n : Int) (k : Nat) : (Dgs n k).length = k := by
 induction k generalizing n with
 | zero => rfl
 | succ k ih => simp [Dgs, ih]
theorem digitsOf_c (k : Nat) (hk : k ≤ 10) : ∀ (n : Int) (_ : 0 ≤ n) (_ : n ≤ 1000000000) (w : World),
 Calls Tryz.prog 78 #[.int .i64 n, .int .i64 k] w fun e w' => e = .returned (.string ⟨(Dgs n k).toArray⟩) ∧ Bl w w' := by
 induction k with
 | zero =>
   intro n h0 h1 w; go_enter Tryz.func78, Tryz.ntmps78; go_wp2; go_ret; exact ⟨rfl, Bl.refl _⟩
 | succ k ih =>
   intro n h0 h1 w; have IH := Lib.hid (ih (by omega)); clear ih; have hlen := Dgs_len (n / 10) k; have HL := Lib.hid hlen; have hl1 : (Dgs (n / 10) k).length ≤ 10 := by omega
   clear hlen; have hx : ((k : Int) + 1 == 0) = false := by simp; omega
   go_enter Tryz.func78, Tryz.ntmps78; go_wp2_with fail; have e1 : IntKind.i64.wrap (n.tdiv 10) = n / 10 := by rw [Int.tdiv_eq_ediv_of_nonneg h0]; exact IntWalk.i64_in _ (by omega)
   have e2 : IntKind.i64.wrap (k : Int) = k := IntWalk.i64_in _ (by omega); have e3 : n.tmod 10 = n % 10 := Int.tmod_eq_emod_of_nonneg h0; have e4 : IntKind.i64.wrap (48 + n % 10) = 48 + n % 10 := IntWalk.i64_in _ (by omega); have e5 : IntKind.u8.wrap (48 + n % 10) = 48 + n % 10 := IntWalk.u8_in _ (by omega); have cv := fun W b => conv_byte W b (48 + n % 10) (by omega) (by omega)
   go_region_with ((go_at_call 78; refine (IH.out _ (by omega) (by omega) _).mono ?_; rintro e w' ⟨rfl, hb⟩; obtain ⟨hc, hf⟩ := hb.cells)); all_goals
    go_wp2; first
     | (exfalso; omega)
     | (go_ret
        exact ⟨by simp [Act.put, Dgs], by repeat (first | exact Bl.refl _ | assumption | refine Bl.alloc ?_ _ | refine Bl.drew ?_ | refine Bl.drewN ?_ _ | refine Bl.trans ?_ (by assumption))⟩)
theorem digits2_c (n : Int) (h0 : 0 ≤ n) (h1 : n ≤ 1000000000) (w : World) :
 Calls Tryz.prog 78 #[.int .i64 n, .int .i64 2] w fun e w' => e = .returned (.string ⟨(Dgs n 2).toArray⟩) ∧ Bl w w' := digitsOf_c 2 (by omega) n h0 h1 w
theorem digits4_c (n : Int) (h0 : 0 ≤ n) (h1 : n ≤ 1000000000) (w : World) :
 Calls Tryz.prog 78 #[.int .i64 n, .int .i64 4] w fun e w' => e = .returned (.string ⟨(Dgs n 4).toArray⟩) ∧ Bl w w' := digitsOf_c 4 (by omega) n h0 h1 w
def DateG (y m d n : Int) : List UInt8 := Dgs y 4 ++ 45 :: (Dgs m 2 ++ 45 :: (Dgs d 2 ++ 84 :: (Dgs (n / 3600) 2 ++ 58 :: (Dgs (n % 3600 / 60) 2 ++ 58 :: (Dgs (n % 60) 2 ++ [90])))))
theorem D70_mono (k y : Nat) (h : k < y) : D70 k + YL k ≤ D70 y := by
 induction y with
 | zero => omega
 | succ y ih =>
   rw [D70_succ]; by_cases hk : k = y
   · subst hk; omega
   · have := ih (by omega); have := YL_bd y; omega
theorem MB_mono (y : Int) (q m : Nat) (h1 : 1 ≤ q) (h : q < m) : MB y q + dtML y q ≤ MB y m := by
 induction m with
 | zero => omega
 | succ m ih =>
   rw [MB_succ y m (by omega)]; by_cases hk : q = m
   · subst hk; omega
   · have := ih (by omega); have := ML_bd y m; omega
theorem MB_13 (y : Int) : MB y 13 = YL y := by
 simp [MB, dtML, YL]; split <;> omega
theorem MB_YL (y : Int) (m : Nat) (h1 : 1 ≤ m) (h : m ≤ 12) : MB y m + dtML y m ≤ YL y := by
 rw [← MB_13]; exact MB_mono y m 13 h1 (by omega)
theorem dateOf_c (y m : Nat) (d n at' : Int) (hy : 1970 ≤ y) (hy1 : y ≤ 2200) (hm : 1 ≤ m) (hm1 : m ≤ 12) (hd : 0 ≤ d) (hd1 : d < dtML y m) (hn : 0 ≤ n) (hn1 : n < 86400)
 (hat : at' = 86400 * (D70 y + MB y m + d) + n) (w : World) :
 Calls Tryz.prog 46 #[.int .i64 at'] w fun e w' => e = .returned (.string ⟨(DateG y m (d + 1) n).toArray⟩) ∧ Bl w w' := by
 have e1 := D70_bd y (by omega); have e2 := MB_bd y m; have e3 := ML_bd y m; have e4 := Lib.hid (MB_YL y m hm hm1); have e5 : 0 ≤ D70 y := by
  by_cases h : y = 1970
  · subst h; rw [D70_0]; omega
  · have := D70_mono 1970 y (by omega); rw [D70_0] at this; have := YL_bd (1970 : Nat); omega
 have b0 : 0 ≤ at' := by omega
 have b1 : at' ≤ 9223372036854775807 := by omega
 have HQ := Lib.hid (show at' / 86400 = D70 y - D70 1970 + MB y m + d by rw [D70_0]; omega); have HR := Lib.hid (show at' % 86400 = n by omega); clear hat; go_enter Tryz.func46, Tryz.ntmps46; go_wp2; go_loop [3, 4] (fun t i => ∃ k : Nat, 1970 ≤ k ∧ k ≤ y ∧ t = .int .i64 (D70 y - D70 k + MB y m + d) ∧ i = .int .i64 k) (fun _ i => y - (intOf i).toNat); case atStart => exact ⟨1970, by omega, by omega, by rw [HQ.out], rfl⟩
 case round =>
  obtain ⟨k, hk, hk2, rfl, rfl⟩ := hrel; have f1 := D70_bd k (by omega); have f2 := YL_bd k; by_cases hlt : k < y
  · have f3 := D70_mono k y hlt; have HS := Lib.hid (D70_succ k); go_wp2_with (go_at_call 76; refine (yearLong_c _ (by omega) (by omega) _).mono ?_; rintro e w' ⟨rfl, rfl⟩); go_round; case rel => exact ⟨k + 1, by omega, by omega, by rw [HS.out]; go_num, by go_num⟩
    case measure => simp [intOf]; omega
  · obtain rfl : k = y := by omega
    have f3 : MB k m + d < YL k := by have := e4.out; omega
    go_wp2_with (go_at_call 76; refine (yearLong_c _ (by omega) (by omega) _).mono ?_; rintro e w' ⟨rfl, rfl⟩); go_loop [3, 5] (fun t i => ∃ q : Nat, 1 ≤ q ∧ q ≤ m ∧ t = .int .i64 (MB k m - MB k q + d) ∧ i = .int .i64 q) (fun _ i => m - (intOf i).toNat); case atStart => exact ⟨1, by omega, by omega, by rw [show MB k 1 = 0 from rfl]; go_num, rfl⟩
    case round =>
     obtain ⟨q, hq, hq2, rfl, rfl⟩ := hrel; have g1 := MB_bd k q; have g2 := ML_bd k q; by_cases hlt2 : q < m
     · have f4 := MB_mono k q m hq hlt2; have HS := Lib.hid (MB_succ k q hq); go_wp2_with (go_at_call 77; refine (monthLong_c _ _ (by omega) (by omega) _).mono ?_; rintro e w' ⟨rfl, rfl⟩); go_round; case rel => exact ⟨q + 1, by omega, by omega, by rw [HS.out]; go_num, by go_num⟩
       case measure => simp [intOf]; omega
     · obtain rfl : q = m := by omega
       have HL := Dgs_len; go_wp2_with (first | (go_at_call 77; refine (monthLong_c _ _ (by omega) (by omega) _).mono ?_; rintro e w' ⟨rfl, rfl⟩) | (go_at_call 78; (with_reducible refine (digits4_c _ (by omega) (by omega) _).mono ?_); rintro e w' ⟨rfl, hb⟩) | (go_at_call 78; (with_reducible refine (digits2_c _ (by omega) (by omega) _).mono ?_); rintro e w' ⟨rfl, hb⟩)); go_ret; refine ⟨?_, by repeat (first | exact Bl.refl _ | assumption | refine Bl.alloc ?_ _ | refine Bl.drew ?_ | refine Bl.drewN ?_ _ | refine Bl.trans ?_ (by assumption))⟩; have hr := HR.out; simp [DateG, hr, show at' % 3600 = n % 3600 by omega, show at' % 60 = n % 60 by omega]
theorem leap_c (y : Int) (h0 : 0 ≤ y) (h1 : y ≤ 100000) (w : World) :
 Calls Tryz.prog 144 #[.int .i64 y] w fun e w' => e = .returned (.bool (Leap y)) ∧ w = w' := by
 by_cases h4 : y % 4 = 0 <;> by_cases h100 : y % 100 = 0 <;> by_cases h400 : y % 400 = 0; all_goals first
  | (exfalso; omega)
  | (have g : Leap y = ((y % 4 == 0) && !(y % 100 == 0) || (y % 400 == 0)) := by rw [Bool.eq_iff_iff]; simp [Leap, h4, h100, h400]
     have G := Lib.hid g; clear g; go_enter Tryz.func144, Tryz.ntmps144; go_wp2; go_ret; exact ⟨ret_bool (by rw [G.out, Bool.eq_iff_iff]; simp [h4, h100, h400]), rfl⟩)
theorem dtlong_c (y m : Int) (h0 : 0 ≤ y) (h1 : y ≤ 100000) (h2 : 1 ≤ m) (h3 : m ≤ 12) (w : World) :
 Calls Tryz.prog 111 #[.int .i64 y, .int .i64 m] w fun e w' => e = .returned (.int .i64 (dtML y m)) ∧ Bl w w' := by
 have hm : m = 1 ∨ m = 2 ∨ m = 3 ∨ m = 4 ∨ m = 5 ∨ m = 6 ∨ m = 7 ∨ m = 8 ∨ m = 9 ∨ m = 10 ∨ m = 11 ∨ m = 12 := by omega
 rcases hm with rfl | rfl | rfl | rfl | rfl | rfl | rfl | rfl | rfl | rfl | rfl | rfl; all_goals
  go_enter Tryz.func111, Tryz.ntmps111; go_wp2_with (go_at_call 144; refine (leap_c _ (by omega) (by omega) _).mono ?_; rintro e w' ⟨rfl, rfl⟩); all_goals
   go_ret; exact ⟨ret_int (by simp [dtML, *]), by repeat (first | exact Bl.refl _ | assumption | refine Bl.alloc ?_ _ | refine Bl.drew ?_ | refine Bl.drewN ?_ _ | refine Bl.trans ?_ (by assumption))⟩
theorem ahead_step (z : Int) (_h : 0 ≤ z) : 365 * (z + 1) + z / 4 - z / 100 + z / 400 + 1 + YL (z + 1) = 365 * (z + 1 + 1) + (z + 1) / 4 - (z + 1) / 100 + (z + 1) / 400 + 1 := by
 unfold YL Leap; by_cases h1 : (z + 1) % 100 = 0
 · rw [if_pos h1]; by_cases h2 : (z + 1) % 400 = 0
   · rw [show ((z + 1) % 400 == 0) = true by simp [h2], if_pos rfl]; omega
   · rw [show ((z + 1) % 400 == 0) = false by simp [h2], if_neg (by simp)]; omega
 · rw [if_neg h1]; by_cases h2 : (z + 1) % 4 = 0
   · rw [show ((z + 1) % 4 == 0) = true by simp [h2], if_pos rfl]; omega
   · rw [show ((z + 1) % 4 == 0) = false by simp [h2], if_neg (by simp)]; omega
theorem ahead_law (y : Nat) : 365 * ((y : Int) + 1) + y / 4 - y / 100 + y / 400 + 1 = DB (y + 1) := by
 induction y with
 | zero => decide +kernel
 | succ y ih =>
   rw [show DB (y + 1 + 1) = DB (y + 1) + YL ((y : Int) + 1) from rfl, ← ih, ahead_step y (by omega)]; rfl
theorem ahead_c (y : Nat) (h1 : y ≤ 10001) (w : World) :
 Calls Tryz.prog 110 #[.int .i64 y] w fun e w' => e = .returned (.int .i64 (DB y)) ∧ w = w' := by
 cases y with
 | zero =>
   go_enter Tryz.func110, Tryz.ntmps110; go_wp2; go_ret; exact ⟨rfl, rfl⟩
 | succ y =>
   have hx : ((y : Int) + 1 == 0) = false := by simp; omega
   have HA := Lib.hid (ahead_law y); go_enter Tryz.func110, Tryz.ntmps110; go_wp2; go_ret; exact ⟨ret_int (by rw [← HA.out]), rfl⟩
end Go.Proofs.YtamdlihgecpbkaaGreatDoor

/- digitsOf, DateOf of the reference. -/
import Derived.Test.YtkmndlnhpegdgaaDoorDateTime
import Derived.Deep.RegionWith
namespace Go.Proofs.YtkmndlnhpegdgaaDoor
open Go.RowKit

theorem conv_byte (W : World) (b : Nat) (n : Int) (h0 : 0 ≤ n) (h1 : n ≤ 255) (hc : W.cell? ⟨b, 0, none⟩ = some (.int .u8 n)) :
    (convert 31 9 (.slice (some ⟨b, 0, none⟩) 1 1)).run Tryd.prog W = .ok (.string ⟨[UInt8.ofNat n.toNat].toArray⟩) W := by
  refine run_convert_bytes_back _ 31 9 5 ⟨b, 0, none⟩ 1 [UInt8.ofNat n.toNat] Tryd.underlying31 Tryd.underlying5 Tryd.underlying9 fun j hj => ?_
  obtain rfl : j = 0 := by simpa using hj
  have : ((UInt8.ofNat n.toNat).toNat : Int) = n := by simp [UInt8.toNat_ofNat']; omega
  simp only [Addr.add, if_true, hc, List.getElem_cons_zero, this]

def Dgs (n : Int) : Nat → List UInt8
  | 0 => []
  | k + 1 => Dgs (n / 10) k ++ [UInt8.ofNat (48 + n % 10).toNat]
theorem Dgs_len (n : Int) (k : Nat) : (Dgs n k).length = k := by
  induction k generalizing n with
  | zero => rfl
  | succ k ih => simp [Dgs, ih]

theorem digitsOf_c (k : Nat) (hk : k ≤ 10) : ∀ (n : Int) (_ : 0 ≤ n) (_ : n ≤ 1000000000) (w : World),
    Calls Tryd.prog 31 #[.int .i64 n, .int .i64 k] w fun e w' => e = .returned (.string ⟨(Dgs n k).toArray⟩) ∧ Bl w w' := by
  induction k with
  | zero =>
    intro n h0 h1 w
    go_enter Tryd.func31, Tryd.ntmps31
    go_wp2
    go_ret
    exact ⟨rfl, Bl.refl _⟩
  | succ k ih =>
    intro n h0 h1 w
    have IH := Lib.hid (ih (by omega))
    clear ih
    have hlen := Dgs_len (n / 10) k
    have HL := Lib.hid hlen
    have hl1 : (Dgs (n / 10) k).length ≤ 10 := by omega
    clear hlen
    have hx : ((k : Int) + 1 == 0) = false := by simp; omega
    go_enter Tryd.func31, Tryd.ntmps31
    go_wp2_with fail
    have e1 : IntKind.i64.wrap (n.tdiv 10) = n / 10 := by rw [Int.tdiv_eq_ediv_of_nonneg h0]; exact IntWalk.i64_in _ (by omega)
    have e2 : IntKind.i64.wrap (k : Int) = k := IntWalk.i64_in _ (by omega)
    have e3 : n.tmod 10 = n % 10 := Int.tmod_eq_emod_of_nonneg h0
    have e4 : IntKind.i64.wrap (48 + n % 10) = 48 + n % 10 := IntWalk.i64_in _ (by omega)
    have e5 : IntKind.u8.wrap (48 + n % 10) = 48 + n % 10 := IntWalk.u8_in _ (by omega)
    have cv := fun W b => conv_byte W b (48 + n % 10) (by omega) (by omega)
    go_region_with ((go_at_call 31; refine (IH.out _ (by omega) (by omega) _).mono ?_; rintro e w' ⟨rfl, hb⟩; obtain ⟨hc, hf⟩ := hb.cells))
    all_goals
      go_wp2
      first
        | (exfalso; omega)
        | (go_ret
           exact ⟨by simp [Act.put, Dgs], by repeat (first | exact Bl.refl _ | assumption | refine Bl.alloc ?_ _ | refine Bl.drew ?_ | refine Bl.drewN ?_ _ | refine Bl.trans ?_ (by assumption))⟩)

theorem digits2_c (n : Int) (h0 : 0 ≤ n) (h1 : n ≤ 1000000000) (w : World) :
    Calls Tryd.prog 31 #[.int .i64 n, .int .i64 2] w fun e w' => e = .returned (.string ⟨(Dgs n 2).toArray⟩) ∧ Bl w w' := digitsOf_c 2 (by omega) n h0 h1 w
theorem digits4_c (n : Int) (h0 : 0 ≤ n) (h1 : n ≤ 1000000000) (w : World) :
    Calls Tryd.prog 31 #[.int .i64 n, .int .i64 4] w fun e w' => e = .returned (.string ⟨(Dgs n 4).toArray⟩) ∧ Bl w w' := digitsOf_c 4 (by omega) n h0 h1 w
def DateG (y m d n : Int) : List UInt8 := Dgs y 4 ++ 45 :: (Dgs m 2 ++ 45 :: (Dgs d 2 ++ 84 :: (Dgs (n / 3600) 2 ++ 58 :: (Dgs (n % 3600 / 60) 2 ++ 58 :: (Dgs (n % 60) 2 ++ [90])))))

theorem D70_mono (k y : Nat) (h : k < y) : D70 k + YL k ≤ D70 y := by
  induction y with
  | zero => omega
  | succ y ih =>
    rw [D70_succ]
    by_cases hk : k = y
    · subst hk; omega
    · have := ih (by omega); have := YL_bd y; omega
theorem MB_mono (y : Int) (q m : Nat) (h1 : 1 ≤ q) (h : q < m) : MB y q + ML y q ≤ MB y m := by
  induction m with
  | zero => omega
  | succ m ih =>
    rw [MB_succ y m (by omega)]
    by_cases hk : q = m
    · subst hk; omega
    · have := ih (by omega); have := ML_bd y m; omega
theorem MB_13 (y : Int) : MB y 13 = YL y := by
  simp [MB, ML, YL]; split <;> omega
theorem MB_YL (y : Int) (m : Nat) (h1 : 1 ≤ m) (h : m ≤ 12) : MB y m + ML y m ≤ YL y := by
  rw [← MB_13]; exact MB_mono y m 13 h1 (by omega)

set_option maxRecDepth 100000 in
set_option maxHeartbeats 400000 in
theorem dateOf_c (y m : Nat) (d n at' : Int) (hy : 1970 ≤ y) (hy1 : y ≤ 2200) (hm : 1 ≤ m) (hm1 : m ≤ 12) (hd : 0 ≤ d) (hd1 : d < ML y m) (hn : 0 ≤ n) (hn1 : n < 86400)
    (hat : at' = 86400 * (D70 y + MB y m + d) + n) (w : World) :
    Calls Tryd.prog 12 #[.int .i64 at'] w fun e w' => e = .returned (.string ⟨(DateG y m (d + 1) n).toArray⟩) ∧ Bl w w' := by
  have e1 := D70_bd y (by omega)
  have e2 := MB_bd y m
  have e3 := ML_bd y m
  have e4 := Lib.hid (MB_YL y m hm hm1)
  have e5 : 0 ≤ D70 y := by
    by_cases h : y = 1970
    · subst h; rw [D70_0]; omega
    · have := D70_mono 1970 y (by omega); rw [D70_0] at this; have := YL_bd (1970 : Nat); omega
  have b0 : 0 ≤ at' := by omega
  have b1 : at' ≤ 9223372036854775807 := by omega
  have HQ := Lib.hid (show at' / 86400 = D70 y - D70 1970 + MB y m + d by rw [D70_0]; omega)
  have HR := Lib.hid (show at' % 86400 = n by omega)
  clear hat
  go_enter Tryd.func12, Tryd.ntmps12
  go_wp2
  go_loop [3, 4] (fun t i => ∃ k : Nat, 1970 ≤ k ∧ k ≤ y ∧ t = .int .i64 (D70 y - D70 k + MB y m + d) ∧ i = .int .i64 k) (fun _ i => y - (intOf i).toNat)
  case atStart => exact ⟨1970, by omega, by omega, by rw [HQ.out], rfl⟩
  case round =>
    obtain ⟨k, hk, hk2, rfl, rfl⟩ := hrel
    have f1 := D70_bd k (by omega)
    have f2 := YL_bd k
    by_cases hlt : k < y
    · have f3 := D70_mono k y hlt
      have HS := Lib.hid (D70_succ k)
      go_wp2_with (go_at_call 29; refine (yearLong_c _ (by omega) (by omega) _).mono ?_; rintro e w' ⟨rfl, rfl⟩)
      go_round
      case rel => exact ⟨k + 1, by omega, by omega, by rw [HS.out]; go_num, by go_num⟩
      case measure => simp [intOf]; omega
    · obtain rfl : k = y := by omega
      have f3 : MB k m + d < YL k := by have := e4.out; omega
      go_wp2_with (go_at_call 29; refine (yearLong_c _ (by omega) (by omega) _).mono ?_; rintro e w' ⟨rfl, rfl⟩)
      go_loop [3, 5] (fun t i => ∃ q : Nat, 1 ≤ q ∧ q ≤ m ∧ t = .int .i64 (MB k m - MB k q + d) ∧ i = .int .i64 q) (fun _ i => m - (intOf i).toNat)
      case atStart => exact ⟨1, by omega, by omega, by rw [show MB k 1 = 0 from rfl]; go_num, rfl⟩
      case round =>
        obtain ⟨q, hq, hq2, rfl, rfl⟩ := hrel
        have g1 := MB_bd k q
        have g2 := ML_bd k q
        by_cases hlt2 : q < m
        · have f4 := MB_mono k q m hq hlt2
          have HS := Lib.hid (MB_succ k q hq)
          go_wp2_with (go_at_call 30; refine (monthLong_c _ _ (by omega) (by omega) _).mono ?_; rintro e w' ⟨rfl, rfl⟩)
          go_round
          case rel => exact ⟨q + 1, by omega, by omega, by rw [HS.out]; go_num, by go_num⟩
          case measure => simp [intOf]; omega
        · obtain rfl : q = m := by omega
          have HL := Dgs_len
          go_wp2_with (first | (go_at_call 30; refine (monthLong_c _ _ (by omega) (by omega) _).mono ?_; rintro e w' ⟨rfl, rfl⟩) | (go_at_call 31; (with_reducible refine (digits4_c _ (by omega) (by omega) _).mono ?_); rintro e w' ⟨rfl, hb⟩) | (go_at_call 31; (with_reducible refine (digits2_c _ (by omega) (by omega) _).mono ?_); rintro e w' ⟨rfl, hb⟩))
          go_ret
          refine ⟨?_, by repeat (first | exact Bl.refl _ | assumption | refine Bl.alloc ?_ _ | refine Bl.drew ?_ | refine Bl.drewN ?_ _ | refine Bl.trans ?_ (by assumption))⟩
          have hr := HR.out
          simp [DateG, hr, show at' % 3600 = n % 3600 by omega, show at' % 60 = n % 60 by omega]
end Go.Proofs.YtkmndlnhpegdgaaDoor

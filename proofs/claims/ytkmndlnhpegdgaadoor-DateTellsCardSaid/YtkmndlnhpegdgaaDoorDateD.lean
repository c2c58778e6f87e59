/- Which day a time is of; padded; Print. -/
import Derived.Test.YtkmndlnhpegdgaaDoorDateC
import Derived.Test.YtkmndlnhpegdgaaDoorShelf
namespace Go.Proofs.YtkmndlnhpegdgaaDoor
open Go.RowKit

theorem find_year (t : Int) (h0 : 0 ≤ t) (k : Nat) (h : t < D70 (1970 + k)) : ∃ y : Nat, 1970 ≤ y ∧ y < 1970 + k ∧ D70 y ≤ t ∧ t < D70 (y + 1) := by
  induction k with
  | zero => rw [show 1970 + 0 = 1970 from rfl, D70_0] at h; omega
  | succ k ih =>
    by_cases hk : t < D70 (1970 + k)
    · obtain ⟨y, a, b, c, d⟩ := ih hk; exact ⟨y, a, by omega, c, d⟩
    · exact ⟨1970 + k, by omega, by omega, by omega, h⟩
theorem find_month (y t : Int) (h0 : 0 ≤ t) (k : Nat) (h : t < MB y (1 + k)) : ∃ m : Nat, 1 ≤ m ∧ m < 1 + k ∧ MB y m ≤ t ∧ t < MB y (m + 1) := by
  induction k with
  | zero => simp [MB] at h; omega
  | succ k ih =>
    by_cases hk : t < MB y (1 + k)
    · obtain ⟨m, a, b, c, d⟩ := ih hk; exact ⟨m, a, by omega, c, d⟩
    · exact ⟨1 + k, by omega, by omega, by omega, h⟩
theorem D70_2100 : D70 2100 = 47482 := by
  have h1 := ahead_law 2099
  have h2 := ahead_law 1969
  unfold D70
  rw [show DB 2100 = DB (2099 + 1) from rfl, show DB 1970 = DB (1969 + 1) from rfl, ← h1, ← h2]
  decide
structure IsDate (y m : Nat) (d n at' : Int) : Prop where
  y0 : 1970 ≤ y
  y1 : y ≤ 2099
  m0 : 1 ≤ m
  m1 : m ≤ 12
  d0 : 0 ≤ d
  d1 : d < ML y m
  n0 : 0 ≤ n
  n1 : n < 86400
  eq : at' = 86400 * (D70 y + MB y m + d) + n
theorem exists_date (at' : Int) (h0 : 0 ≤ at') (h1 : at' ≤ 4102444799) : ∃ (y m : Nat) (d n : Int), IsDate y m d n at' := by
  have e := D70_2100
  obtain ⟨y, a, b, c, d⟩ := find_year (at' / 86400) (by omega) 130 (by rw [show 1970 + 130 = 2100 from rfl, e]; omega)
  have hY : D70 (y + 1) = D70 y + YL y := D70_succ y
  have hM := MB_13 y
  obtain ⟨m, a', b', c', d'⟩ := find_month y (at' / 86400 - D70 y) (by omega) 12 (by rw [show 1 + 12 = 13 from rfl, hM]; omega)
  have hm := MB_succ y m a'
  exact ⟨y, m, at' / 86400 - D70 y - MB y m, at' % 86400, by omega, by omega, a', by omega, by omega, by omega, by omega, by omega, by omega⟩

theorem Dgs_zero (k : Nat) : Dgs 0 k = List.replicate k 48 := by
  induction k with
  | zero => rfl
  | succ k ih => rw [Dgs, Int.zero_ediv, ih, List.replicate_succ']; rfl
theorem pad_law (k : Nat) (n : Nat) (h : n < 10 ^ (k + 1)) : List.replicate (k + 1 - (Lib.decDigits n).length) 48 ++ Lib.decDigits n = Dgs n (k + 1) ∧ (Lib.decDigits n).length ≤ k + 1 := by
  induction k generalizing n with
  | zero =>
    rw [Lib.decDigits, dif_pos (by simpa using h)]
    have : (48 + (n : Int) % 10).toNat = 48 + n := by simp at h; omega
    simp [Dgs, this]
  | succ k ih =>
    have h10 : n / 10 < 10 ^ (k + 1) := by rw [Nat.pow_succ] at h; omega
    obtain ⟨i1, i2⟩ := ih (n / 10) h10
    have hc : ((n : Int) / 10) = ((n / 10 : Nat) : Int) := by omega
    have hm : (48 + (n : Int) % 10).toNat = 48 + n % 10 := by omega
    rw [Lib.decDigits]
    by_cases hn : n < 10
    · rw [dif_pos hn]
      have h0 : n / 10 = 0 := by omega
      have hm2 : n % 10 = n := by omega
      rw [Dgs, hc, h0, hm, hm2]
      have hz : Dgs (((0 : Nat) : Int)) (k + 1) = List.replicate (k + 1) 48 := Dgs_zero (k + 1)
      rw [hz]
      simp
    · rw [dif_neg hn, Dgs, hc, hm, ← i1]
      rw [List.length_append, List.length_singleton, show k + 1 + 1 - ((Lib.decDigits (n / 10)).length + 1) = k + 1 - (Lib.decDigits (n / 10)).length by omega, List.append_assoc]
      exact ⟨rfl, by omega⟩

/-- The table of the powers of ten reads as Go's text lays it. -/
def TI (w : World) : Prop := Lib.TabIs Tryd.prog w "internal/strconv.uint64pow10" .u64 Lib.pow10Tab
theorem TI.of_bl {w w' : World} (h : TI w) (hb : Bl w w') : TI w' := by
  have hg : Tryd.prog.globalNamed "internal/strconv.uint64pow10" = some 0 := by kernel_rfl
  unfold TI Lib.TabIs at *
  refine var?_below hb hg ?_ h
  unfold World.var? at h
  rw [hg, Option.bind_some] at h
  cases hx : w.heap[0]? with
  | none => rw [hx] at h; cases h
  | some o => exact (Array.getElem?_eq_some_iff.1 hx).1

theorem bl_grow (w : World) (q : Nat) (os : Array Obj) : Bl w (Go.Sort.grow (w.drewN q) os) :=
  ⟨rfl, rfl, rfl, by simp [Go.Sort.grow], fun i hi => by
    show ((w.drewN q).heap ++ os)[i]? = _
    rw [Array.getElem?_append_left (by show i < w.heap.size; omega)]
    rfl⟩
theorem itoa_c (n : Nat) (h : n ≤ 9223372036854775807) (w : World) (hT : TI w) :
    Calls Tryd.prog 35 #[.int .i64 n] w fun e w' => e = .returned (.string ⟨(Lib.decDigits n).toArray⟩) ∧ Bl w w' :=
  (Tryd.strconv_Itoa n (by omega) (by omega) w hT).mono fun e w' ⟨he, k, os, hw⟩ => ⟨by rw [he, Lib.itoa_nonneg], by subst hw; exact bl_grow w k os⟩

def strLen : Value → Nat | .string s => s.size | _ => 0
theorem padded_c (k : Nat) (n : Nat) (hk : k + 1 ≤ 4) (h : n < 10 ^ (k + 1)) (w : World) (hT : TI w) :
    Calls Tryd.prog 24 #[.int .i64 n, .int .i64 ((k + 1 : Nat) : Int)] w fun e w' => e = .returned (.string ⟨(Dgs n (k + 1)).toArray⟩) ∧ Bl w w' := by
  obtain ⟨q1, q2⟩ := pad_law k n h
  have Q1 := Lib.hid q1
  clear q1
  have h10 : n ≤ 10000 := by
    have : 10 ^ (k + 1) ≤ 10 ^ 4 := Nat.pow_le_pow_right (by omega) hk
    omega
  clear h
  have q3 : (Lib.decDigits n).length ≤ 4 := by omega
  go_enter Tryd.func24, Tryd.ntmps24
  go_wp2_with (go_at_call 35; refine (itoa_c _ (by omega) _ (by assumption)).mono ?_; rintro e w' ⟨rfl, hb⟩)
  go_loop [5] (fun t => ∃ j : Nat, (Lib.decDigits n).length + j ≤ k + 1 ∧ t = .string ⟨(List.replicate j 48 ++ Lib.decDigits n).toArray⟩) (fun t => k + 1 - strLen t)
  case atStart => exact ⟨0, by omega, rfl⟩
  case round =>
    obtain ⟨j, hj, rfl⟩ := hrel
    by_cases hlt : (Lib.decDigits n).length + j < k + 1
    · go_wp2
      go_round
      case rel => exact ⟨j + 1, by omega, rfl⟩
      case measure => simp [strLen, ByteArray.size]; omega
    · go_wp2
      go_ret
      refine ⟨?_, by assumption⟩
      rw [← Q1.out, show k + 1 - (Lib.decDigits n).length = j by omega]
      rfl

theorem pad2_c (n : Int) (h0 : 0 ≤ n) (h : n ≤ 99) (w : World) (hT : TI w) :
    Calls Tryd.prog 24 #[.int .i64 n, .int .i64 2] w fun e w' => e = .returned (.string ⟨(Dgs n 2).toArray⟩) ∧ Bl w w' := by
  obtain ⟨m, rfl⟩ := Int.eq_ofNat_of_zero_le h0
  exact padded_c 1 m (by omega) (by omega) w hT
theorem pad4_c (n : Int) (h0 : 0 ≤ n) (h : n ≤ 9999) (w : World) (hT : TI w) :
    Calls Tryd.prog 24 #[.int .i64 n, .int .i64 4] w fun e w' => e = .returned (.string ⟨(Dgs n 4).toArray⟩) ∧ Bl w w' := by
  obtain ⟨m, rfl⟩ := Int.eq_ofNat_of_zero_le h0
  exact padded_c 3 m (by omega) (by omega) w hT

theorem DB_succ (k : Nat) : DB (k + 1) = DB k + YL k := rfl

set_option maxRecDepth 100000 in
set_option maxHeartbeats 1000000 in
theorem print_c (y m : Nat) (d n at' : Int) (hD : IsDate y m d n at') (w : World) (hT : TI w) :
    Calls Tryd.prog 9 #[.int .i64 at'] w fun e w' => e = .returned (.tuple #[.string ⟨(DateG y m (d + 1) n).toArray⟩, .int .i64 0]) ∧ Bl w w' := by
  obtain ⟨hy, hy1, hm, hm1, hd, hd1, hn, hn1, hat⟩ := hD
  have e1 := D70_bd y (by omega)
  have e2 := MB_bd y m
  have e3 := ML_bd y m
  have e4 := Lib.hid (MB_YL y m hm hm1)
  have e6 := MB_YL y m hm hm1
  have e7 := YL_bd y
  have e5 : 0 ≤ D70 y ∧ D70 y + YL y ≤ 47482 := by
    refine ⟨?_, ?_⟩
    · by_cases h : y = 1970
      · subst h; rw [D70_0]; omega
      · have := D70_mono 1970 y (by omega); rw [D70_0] at this; have := YL_bd (1970 : Nat); omega
    · have := D70_mono y 2100 (by omega); rw [D70_2100] at this; exact this
  have b0 : 0 ≤ at' := by omega
  have b1 : at' ≤ 4102444799 := by omega
  have HQ := Lib.hid (show at' / 86400 = D70 y - D70 1970 + MB y m + d by rw [D70_0]; omega)
  have HR := Lib.hid (show at' % 86400 = n by omega)
  clear hat
  go_enter Tryd.func9, Tryd.ntmps9
  go_wp2
  go_loop [4, 5] (fun i t => ∃ k : Nat, 1970 ≤ k ∧ k ≤ y ∧ t = .int .i64 (D70 y - D70 k + MB y m + d) ∧ i = .int .i64 k) (fun i _ => y - (intOf i).toNat)
  case atStart => exact ⟨1970, by omega, by omega, by rw [HQ.out], rfl⟩
  case round =>
    obtain ⟨k, hk, hk2, rfl, rfl⟩ := hrel
    have f1 := D70_bd k (by omega)
    have f2 := YL_bd k
    have f4 := DB_bd k
    have f5 := DB_bd (k + 1)
    have f6 : DB (k + 1) - DB k = YL k := by rw [DB_succ]; omega
    have ac := ahead_c (k + 1) (by omega) w
    rw [show ((k + 1 : Nat) : Int) = (k : Int) + 1 from rfl] at ac
    have AC := Lib.hid ac
    clear ac
    by_cases hlt : k < y
    · have f3 := D70_mono k y hlt
      have HS := Lib.hid (D70_succ k)
      go_wp2_with (go_at_call 22; (first | (with_reducible refine (ahead_c k (by omega) _).mono ?_) | (with_reducible refine AC.out.mono ?_)); rintro e w' ⟨rfl, rfl⟩)
      go_round
      case rel => exact ⟨k + 1, by omega, by omega, by rw [HS.out]; go_num, by go_num⟩
      case measure => simp [intOf]; omega
    · obtain rfl : k = y := by omega
      have f3 : MB k m + d < YL k := by have := e4.out; omega
      go_wp2_with (go_at_call 22; (first | (with_reducible refine (ahead_c k (by omega) _).mono ?_) | (with_reducible refine AC.out.mono ?_)); rintro e w' ⟨rfl, rfl⟩)
      go_loopw [5, 6] (fun t i wr => ∃ q : Nat, 1 ≤ q ∧ q ≤ m ∧ t = .int .i64 (MB k m - MB k q + d) ∧ i = .int .i64 q ∧ Bl w wr) (fun _ i _ => m - (intOf i).toNat)
      case atStart => exact ⟨1, by omega, by omega, by rw [show MB k 1 = 0 from rfl]; go_num, rfl, Bl.refl _⟩
      case round =>
        obtain ⟨q, hq, hq2, rfl, rfl, hw⟩ := hrel
        have g1 := MB_bd k q
        have g2 := ML_bd k q
        have hT2 := hT.of_bl hw
        by_cases hlt2 : q < m
        · have f4 := MB_mono k q m hq hlt2
          have HS := Lib.hid (MB_succ k q hq)
          go_wp2_with (go_at_call 23; refine (long_c _ _ (by omega) (by omega) (by omega) (by omega) _).mono ?_; rintro e w' ⟨rfl, hb⟩)
          go_roundw
          case rel => exact ⟨q + 1, by omega, by omega, by rw [HS.out]; go_num, by go_num, by repeat (first | exact Bl.refl _ | assumption | refine Bl.trans ?_ (by assumption))⟩
          case measure => simp [intOf]; omega
        · obtain rfl : q = m := by omega
          have HL := Dgs_len
          go_wp2_with (first | (go_at_call 23; refine (long_c _ _ (by omega) (by omega) (by omega) (by omega) _).mono ?_; rintro e w' ⟨rfl, hb⟩; have ht := hT2.of_bl hb) | (go_at_call 24; (with_reducible (first | refine (pad2_c _ (by omega) (by omega) _ (by assumption)).mono ?_ | refine (pad4_c _ (by omega) (by omega) _ (by assumption)).mono ?_)); rintro e w' ⟨rfl, hb⟩; have ht := TI.of_bl (by assumption) hb))
          go_ret2
          refine ⟨?_, by repeat (first | exact Bl.refl _ | assumption | refine Bl.trans ?_ (by assumption))⟩
          have hr := HR.out
          simp [DateG, hr, show at' % 3600 = n % 3600 by omega, show at' % 60 = n % 60 by omega, show n / 60 % 60 = n % 3600 / 60 by omega]
          try rfl
end Go.Proofs.YtkmndlnhpegdgaaDoor

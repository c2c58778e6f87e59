/- The reader's zone, told, days; Web. -/
import Derived.Test.YtkmndlnhpegdgaaDoorDateB
namespace Go.Proofs.YtkmndlnhpegdgaaDoor
open Go.RowKit

/-- zone: with something between, or nothing. -/
def znG (s : List UInt8) : Int := sgV s [43, 45]
def znM (s of : List UInt8) : List UInt8 := if of = [] then dgS 2 (sgS s [43, 45]) else sgS (dgS 2 (sgS s [43, 45])) of
def znV (s of : List UInt8) : Int := ZV (znG s) 0 (60 * (60 * dgN 2 0 (sgS s [43, 45]) + dgN 2 0 (znM s of)))
def znS (s of : List UInt8) : List UInt8 := dgS 2 (znM s of)
def znB (s of : List UInt8) : Bool :=
  sgB s [43, 45] || dgB 2 (sgS s [43, 45]) || decide (23 < dgN 2 0 (sgS s [43, 45])) || (if of = [] then false else sgB (dgS 2 (sgS s [43, 45])) of) || dgB 2 (znM s of) || decide (59 < dgN 2 0 (znM s of))

theorem zone_c (b : Nat) (s of : List UInt8) (sh : Bool) (w : World) (hR : Rd w b s sh) (hs : s.length ≤ 9223372036854775807) (hof : of = [] ∨ of = [58]) :
    Calls Tryd.prog 18 #[.pointer (some ⟨b, 0, none⟩), .string ⟨of.toArray⟩] w fun e w' =>
      e = .returned (.int .i64 (znV s of)) ∧ Rd w' b (znS s of) (sh || znB s of) ∧ Mo b w w' := by
  have l1 := sgS_len s [43, 45]
  have l2 := dgS_len 2 (sgS s [43, 45])
  have l3 := sgS_len (dgS 2 (sgS s [43, 45])) of
  have b1 := dg2_bd (sgS s [43, 45])
  have b2 := dg2_bd (dgS 2 (sgS s [43, 45]))
  have b3 := dg2_bd (sgS (dgS 2 (sgS s [43, 45])) of)
  have b4 := sgV_bd s [43, 45]
  rcases hof with rfl | rfl
  all_goals (cases hg : (sgV s [43, 45] == 45))
  all_goals
    have HG := Lib.hid hg
    go_enter Tryd.func18, Tryd.ntmps18
    go_wp2_with (first | (go_at_call 15; refine (sign_c b _ _ _ _ (by assumption) (by omega) (by decide)).mono ?_; rintro e w' ⟨rfl, hr, hm⟩) | (go_at_call 14; (with_reducible refine (dig2_c b _ _ _ _ (by assumption) (by omega)).mono ?_); rintro e w' ⟨rfl, hr, hm⟩))
    go_ret
    have hg' := HG.out
    simp only [beq_iff_eq, beq_eq_false_iff_ne] at hg'
    refine ⟨ret_int (by simp [znV, znG, znM, ZV, hg'] <;> omega), by simpa [znS, znB, znM, Bool.or_assoc] using hr, ?_⟩
    repeat (first | assumption | refine Mo.trans ?_ (by assumption))

theorem days_c (y m : Nat) (d : Int) (h1 : y ≤ 9999) (h2 : 1 ≤ m) (h3 : m ≤ 12) (h4 : 0 ≤ d) (h5 : d ≤ 99) (w : World) :
    Calls Tryd.prog 33 #[.int .i64 y, .int .i64 m, .int .i64 d] w fun e w' => e = .returned (.int .i64 (D70 y + MB y m + d - 1)) ∧ Bl w w' := by
  have b1 := DB_bd y
  have b2 := DB_bd 1970
  have b3 := Lib.hid (show D70 y = DB y - DB 1970 from rfl)
  have b4 := D70_bd y (by omega)
  have a70 : Calls Tryd.prog 22 #[.int .i64 1970] w fun e w' => e = .returned (.int .i64 (DB 1970)) ∧ w = w' := ahead_c 1970 (by omega) w
  have A70 := Lib.hid a70
  clear a70
  go_enter Tryd.func33, Tryd.ntmps33
  go_wp2_with (go_at_call 22; (first | (with_reducible refine (ahead_c y (by omega) _).mono ?_) | (with_reducible refine A70.out.mono ?_)); rintro e w' ⟨rfl, rfl⟩)
  go_loopw [7, 8] (fun t i wr => ∃ q : Nat, 1 ≤ q ∧ q ≤ m ∧ t = .int .i64 (D70 y + MB y q + d - 1) ∧ i = .int .i64 q ∧ Bl w wr) (fun _ i _ => m - (intOf i).toNat)
  case atStart => exact ⟨1, by omega, by omega, by rw [b3.out]; simp [MB], rfl, Bl.refl _⟩
  case round =>
    obtain ⟨q, hq, hq2, rfl, rfl, hw⟩ := hrel
    have e1 := MB_bd y q
    by_cases hlt : q < m
    · have e2 := ML_bd y q
      have HS := Lib.hid (MB_succ y q hq)
      go_wp2_with (go_at_call 23; refine (long_c _ _ (by omega) (by omega) (by omega) (by omega) _).mono ?_; rintro e w' ⟨rfl, hb⟩)
      go_roundw
      case rel => exact ⟨q + 1, by omega, by omega, by rw [HS.out]; go_num, by go_num, hw.trans hb⟩
      case measure => simp [intOf]; omega
    · obtain rfl : q = m := by omega
      go_wp2
      go_ret
      exact ⟨rfl, hw⟩

/-- told. -/
def TdE (s : List UInt8) (sh : Bool) (y m d ck zn : Int) : Int :=
  if sh = true ∨ s ≠ [] then 1 else if m < 1 ∨ 12 < m ∨ d < 1 ∨ ML y m < d then 3
  else if 86400 * (D70 y.toNat + MB y m.toNat + d - 1) + ck - zn < 0 ∨ 4102444799 < 86400 * (D70 y.toNat + MB y m.toNat + d - 1) + ck - zn then 3 else 0
def TdV (s : List UInt8) (sh : Bool) (y m d ck zn : Int) : Int := if TdE s sh y m d ck zn = 0 then 86400 * (D70 y.toNat + MB y m.toNat + d - 1) + ck - zn else 0
def TdT (s : List UInt8) (sh : Bool) (y m d ck zn : Int) : Ending := .returned (.tuple #[.int .i64 (TdV s sh y m d ck zn), .int .i64 (TdE s sh y m d ck zn)])

theorem td_day {y m d ck zn : Int} (g2 : m < 1 ∨ 12 < m ∨ d < 1 ∨ ML y m < d) : Ending.returned (.tuple #[.int .i64 0, .int .i64 3]) = TdT [] false y m d ck zn := by
  have h : TdE [] false y m d ck zn = 3 := by unfold TdE; rw [if_neg (by simp), if_pos g2]
  simp only [TdT, TdV, h]; rfl
theorem td_range {y m d ck zn : Int} (g2 : ¬ (m < 1 ∨ 12 < m ∨ d < 1 ∨ ML y m < d)) (g3 : 86400 * (D70 y.toNat + MB y m.toNat + d - 1) + ck - zn < 0 ∨ 4102444799 < 86400 * (D70 y.toNat + MB y m.toNat + d - 1) + ck - zn) : Ending.returned (.tuple #[.int .i64 0, .int .i64 3]) = TdT [] false y m d ck zn := by
  have h : TdE [] false y m d ck zn = 3 := by unfold TdE; rw [if_neg (by simp), if_neg g2, if_pos g3]
  simp only [TdT, TdV, h]; rfl
theorem td_ok {y m d ck zn : Int} (g2 : ¬ (m < 1 ∨ 12 < m ∨ d < 1 ∨ ML y m < d)) (g3 : ¬ (86400 * (D70 y.toNat + MB y m.toNat + d - 1) + ck - zn < 0 ∨ 4102444799 < 86400 * (D70 y.toNat + MB y m.toNat + d - 1) + ck - zn)) :
    Ending.returned (.tuple #[.int .i64 (86400 * (D70 y.toNat + MB y m.toNat + d - 1) + ck - zn), .int .i64 0]) = TdT [] false y m d ck zn := by
  have h : TdE [] false y m d ck zn = 0 := by unfold TdE; rw [if_neg (by simp), if_neg g2, if_neg g3]
  simp only [TdT, TdV, h]; rfl

theorem told_c (b : Nat) (s : List UInt8) (sh : Bool) (y m d ck zn : Int) (w : World) (hR : Rd w b s sh) (h1 : 0 ≤ y) (h2 : y ≤ 9999) (h3 : 0 ≤ m) (h4 : m ≤ 99) (h5 : 0 ≤ d) (h6 : d ≤ 99) (h7 : 0 ≤ ck) (h8 : ck ≤ 1000000) (h9 : -1000000 ≤ zn) (h10 : zn ≤ 1000000) :
    Calls Tryd.prog 17 #[.pointer (some ⟨b, 0, none⟩), .int .i64 y, .int .i64 m, .int .i64 d, .int .i64 ck, .int .i64 zn] w fun e w' => e = TdT s sh y m d ck zn ∧ Bl w w' := by
  obtain ⟨c0, c1, f0, f1⟩ := hR.cells
  have hlt := hR.lt
  obtain ⟨yn, rfl⟩ := Int.eq_ofNat_of_zero_le h1
  obtain ⟨mn, rfl⟩ := Int.eq_ofNat_of_zero_le h3
  have e1 := D70_bd yn (by omega)
  have e2 := MB_bd yn mn
  have e3 := ML_bd yn mn
  cases sh
  · cases s with
    | nil =>
      go_enter Tryd.func17, Tryd.ntmps17
      go_wp2_with (first | (go_at_call 23; refine (long_c _ _ (by omega) (by omega) (by omega) (by omega) _).mono ?_; rintro e w' ⟨rfl, hb⟩) | (go_at_call 33; refine (days_c _ _ _ (by omega) (by omega) (by omega) (by omega) (by omega) _).mono ?_; rintro e w' ⟨rfl, hb⟩))
      all_goals
        go_ret2
        refine ⟨?_, by repeat (first | exact Bl.refl _ | assumption | refine Bl.alloc ?_ _ | refine Bl.drew ?_ | refine Bl.drewN ?_ _ | refine Bl.trans ?_ (by assumption))⟩
        have q1 : (yn : Int).toNat = yn := by omega
        have q2 : (mn : Int).toNat = mn := by omega
        first
          | (refine td_day ?_; omega)
          | (refine td_range ?_ ?_ <;> (try rw [q1, q2]) <;> omega)
          | (refine Eq.trans (b := TdT [] false yn mn d ck zn) (Eq.trans ?_ (td_ok ?_ ?_)) rfl
             · rfl
             · omega
             · rw [q1, q2]; omega)
    | cons c t => 
      go_enter Tryd.func17, Tryd.ntmps17
      go_wp2
      go_ret2
      exact ⟨by simp [TdT, TdV, TdE], Bl.refl _⟩
  · go_enter Tryd.func17, Tryd.ntmps17
    go_wp2
    go_ret2
    exact ⟨by simp [TdT, TdV, TdE], Bl.refl _⟩

/-- Web, said by a plain function. -/
def wS1 (l : List UInt8) : List UInt8 := sgS (dgS 4 l) [45]
def wS2 (l : List UInt8) : List UInt8 := sgS (dgS 2 (wS1 l)) [45]
def wS3 (l : List UInt8) : List UInt8 := sgS (dgS 2 (wS2 l)) [84]
def wB (l : List UInt8) : Bool := dgB 4 l || decide (9999 < dgN 4 0 l) || sgB (dgS 4 l) [45] || dgB 2 (wS1 l) || decide (99 < dgN 2 0 (wS1 l)) || sgB (dgS 2 (wS1 l)) [45] || dgB 2 (wS2 l) || decide (99 < dgN 2 0 (wS2 l)) || sgB (dgS 2 (wS2 l)) [84] || ckB (wS3 l)
def WebP (l : List UInt8) : Ending :=
  if ckS (wS3 l) = [90] then TdT [] (wB l) (dgN 4 0 l) (dgN 2 0 (wS1 l)) (dgN 2 0 (wS2 l)) (ckV (wS3 l)) 0
  else TdT (znS (ckS (wS3 l)) [58]) (wB l || znB (ckS (wS3 l)) [58]) (dgN 4 0 l) (dgN 2 0 (wS1 l)) (dgN 2 0 (wS2 l)) (ckV (wS3 l)) (znV (ckS (wS3 l)) [58])
theorem ck_bd (s : List UInt8) : 0 ≤ ckV s ∧ ckV s ≤ 1000000 := by
  have b1 := dg2_bd s
  have b2 := dg2_bd (sgS (dgS 2 s) [58])
  have b3 := dg2_bd (sgS (dgS 2 (sgS (dgS 2 s) [58])) [58])
  unfold ckV; omega
theorem zn_bd (s of : List UInt8) : -1000000 ≤ znV s of ∧ znV s of ≤ 1000000 := by
  have b1 := dg2_bd (sgS s [43, 45])
  have b2 := dg2_bd (znM s of)
  unfold znV ZV; split <;> omega
theorem ckS_len (s : List UInt8) : (ckS s).length ≤ s.length := by
  have l1 := dgS_len 2 s
  have l2 := sgS_len (dgS 2 s) [58]
  have l3 := dgS_len 2 (sgS (dgS 2 s) [58])
  have l4 := sgS_len (dgS 2 (sgS (dgS 2 s) [58])) [58]
  have l5 := dgS_len 2 (sgS (dgS 2 (sgS (dgS 2 s) [58])) [58])
  unfold ckS; omega

theorem Mo.bl_new {w w' : World} {o : Obj} (h : Mo w.heap.size (w.alloc o) w') : Bl w w' := by
  refine ⟨h.os, h.tape, h.output, ?_, fun k hk => ?_⟩
  · have := h.size; simp at this; omega
  · have hk2 : k < (w.alloc o).heap.size := by simp; omega
    rw [h.block k hk2 (by omega)]
    exact Below.heap_alloc w o k hk
theorem Rd_new (w : World) (l : List UInt8) : Rd (w.alloc (.cells #[.string ⟨l.toArray⟩, .bool false] 37)) w.heap.size l false := by
  unfold Rd
  show (w.heap.push _)[w.heap.size]? = _
  simp

set_option maxHeartbeats 1000000 in
theorem web_c (l : List UInt8) (hl : l.length ≤ 9223372036854775807) (w : World) :
    Calls Tryd.prog 7 #[.string ⟨l.toArray⟩] w fun e w' => e = WebP l ∧ Bl w w' := by
  have hR0 := Rd_new w l
  cases hz : (ckS (sgS (dgS 2 (sgS (dgS 2 (sgS (dgS 4 l) [45])) [45])) [84]) == [90])
  all_goals
    have HZ := Lib.hid hz
    go_enter Tryd.func7, Tryd.ntmps7
    go_wp2_with (first | (go_at_call 15; refine (sign_c _ _ _ _ _ (by assumption) (by repeat (first | assumption | refine Nat.le_trans (sgS_len _ _) ?_ | refine Nat.le_trans (dgS_len _ _) ?_ | refine Nat.le_trans (ckS_len _) ?_)) (by decide)).mono ?_; rintro e w' ⟨rfl, hr, hm⟩) | (go_at_call 14; (with_reducible (first | refine (dig2_c _ _ _ _ _ (by assumption) (by repeat (first | assumption | refine Nat.le_trans (sgS_len _ _) ?_ | refine Nat.le_trans (dgS_len _ _) ?_ | refine Nat.le_trans (ckS_len _) ?_))).mono ?_ | refine (dig4_c _ _ _ _ _ (by assumption) (by repeat (first | assumption | refine Nat.le_trans (sgS_len _ _) ?_ | refine Nat.le_trans (dgS_len _ _) ?_ | refine Nat.le_trans (ckS_len _) ?_))).mono ?_)); rintro e w' ⟨rfl, hr, hm⟩) | (go_at_call 16; refine (clock_c _ _ _ _ (by assumption) (by repeat (first | assumption | refine Nat.le_trans (sgS_len _ _) ?_ | refine Nat.le_trans (dgS_len _ _) ?_ | refine Nat.le_trans (ckS_len _) ?_))).mono ?_; rintro e w' ⟨rfl, hr, hm⟩; have hlt := hr.lt; obtain ⟨c0, c1, f0, f1⟩ := hr.cells) | (go_at_call 18; refine (zone_c _ _ _ _ _ (by assumption) (by repeat (first | assumption | refine Nat.le_trans (sgS_len _ _) ?_ | refine Nat.le_trans (dgS_len _ _) ?_ | refine Nat.le_trans (ckS_len _) ?_)) (Or.inr rfl)).mono ?_; rintro e w' ⟨rfl, hr, hm⟩) | (go_at_call 17; refine (told_c _ _ _ _ _ _ _ _ _ (by first | exact Rd.set0 (by assumption) [] | assumption) (dg4_bd _).1 (dg4_bd _).2 (dg2_bd _).1 (dg2_bd _).2 (dg2_bd _).1 (dg2_bd _).2 (ck_bd _).1 (ck_bd _).2 (by first | decide | exact (zn_bd _ _).1) (by first | decide | exact (zn_bd _ _).2)).mono ?_; rintro e w' ⟨he, hb⟩; unfold TdT at he; subst he))
    go_ret2
    have hz' := HZ.out
    simp only [beq_iff_eq, beq_eq_false_iff_ne] at hz'
    refine ⟨?_, ?_⟩
    · simp [WebP, wB, wS1, wS2, wS3, hz', TdT, Bool.or_assoc]
      exact ⟨rfl, rfl⟩
    · refine Mo.bl_new (o := .cells #[.string ⟨l.toArray⟩, .bool false] 37) (Mo.trans ?_ (Mo.of_bl hb))
      repeat (first | assumption | refine Mo.set ?_ _ _ | refine Mo.trans ?_ (by assumption))
end Go.Proofs.YtkmndlnhpegdgaaDoor

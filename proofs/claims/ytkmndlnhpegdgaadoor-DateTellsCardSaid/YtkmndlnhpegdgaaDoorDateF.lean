/- Mail. -/
import Derived.Test.YtkmndlnhpegdgaaDoorDateE
namespace Go.Proofs.YtkmndlnhpegdgaaDoor
open Go.RowKit

theorem tkS_len (s : List UInt8) : (tkS s).length ≤ s.length := by unfold tkS; split <;> simp
theorem dg1_bd (s : List UInt8) : 0 ≤ dgN 1 0 s ∧ dgN 1 0 s ≤ 99 := by
  have h1 := dd_bd s
  simp only [dgN]; omega
theorem monIx_bd (s : List UInt8) : 0 ≤ monIx s ∧ monIx s ≤ 99 := by
  unfold monIx; (repeat' split) <;> omega

def mA1 (s : List UInt8) (k : Nat) : List UInt8 := sgS (dgS k s) [32]
def mA2 (s : List UInt8) (k : Nat) : List UInt8 := sgS (tkS (mA1 s k)) [32]
def mA3 (s : List UInt8) (k : Nat) : List UInt8 := sgS (dgS 4 (mA2 s k)) [32]
def mA4 (s : List UInt8) (k : Nat) : List UInt8 := sgS (ckS (mA3 s k)) [32]
def mBad (s : List UInt8) (sh : Bool) (k : Nat) : Bool :=
  sh || dgB k s || decide (99 < dgN k 0 s) || sgB (dgS k s) [32] || !tkO (mA1 s k) || decide (monIx (tkV (mA1 s k)) = 0) || sgB (tkS (mA1 s k)) [32] ||
    dgB 4 (mA2 s k) || decide (9999 < dgN 4 0 (mA2 s k)) || sgB (dgS 4 (mA2 s k)) [32] || ckB (mA3 s k) || sgB (ckS (mA3 s k)) [32]
def MailQ (s : List UInt8) (sh : Bool) (k : Nat) : Ending :=
  if mA4 s k = [71, 77, 84] ∨ mA4 s k = [85, 84] then TdT [] (mBad s sh k) (dgN 4 0 (mA2 s k)) (monIx (tkV (mA1 s k))) (dgN k 0 s) (ckV (mA3 s k)) 0
  else TdT (znS (mA4 s k) []) (mBad s sh k || znB (mA4 s k) []) (dgN 4 0 (mA2 s k)) (monIx (tkV (mA1 s k))) (dgN k 0 s) (ckV (mA3 s k)) (znV (mA4 s k) [])
def mMany (s : List UInt8) : Nat := match s with | _ :: c :: _ => if c = 32 then 1 else 2 | _ => 1
def MailP (l : List UInt8) : Ending :=
  match l with
  | [] => MailQ [] false 1
  | c :: t => if Ltr c.toNat then MailQ (sgS (sgS (tkS (c :: t)) [44]) [32]) (!tkO (c :: t) || sgB (tkS (c :: t)) [44] || sgB (sgS (tkS (c :: t)) [44]) [32]) (mMany (sgS (sgS (tkS (c :: t)) [44]) [32]))
    else MailQ (c :: t) false (mMany (c :: t))
theorem mMany_2 (s : List UInt8) (h : 1 < s.length) (hc : ((s[1].toNat : Int) != 32) = true) : mMany s = 2 := by
  match s, h with
  | _ :: c :: t, _ =>
    unfold mMany
    simp only []
    rw [if_neg (fun e => by subst e; simp at hc)]
theorem mMany_1 (s : List UInt8) (h : 1 < s.length) (hc : ((s[1].toNat : Int) != 32) = false) : mMany s = 1 := by
  match s, h with
  | _ :: c :: t, _ =>
    unfold mMany
    simp only []
    rw [if_pos]
    simp at hc
    exact UInt8.toNat_inj.1 (by rw [show (32 : UInt8).toNat = 32 from rfl]; omega)
theorem mMany_0 (s : List UInt8) (h : s.length ≤ 1) : mMany s = 1 := by
  cases s with
  | nil => rfl
  | cons c t =>
    cases t with
    | nil => rfl
    | cons d t => simp at h

set_option maxRecDepth 100000 in
set_option maxHeartbeats 2000000 in
theorem mail_3b (l : List UInt8) (hl : l.length ≤ 9223372036854775807) (h0 : 0 < l.length) (hp : Ltr (l[0]'h0).toNat = true) (h1 : 1 < (sgS (sgS (tkS l) [44]) [32]).length) (hc : (((((sgS (sgS (tkS l) [44]) [32])[1]'h1)).toNat : Int) != 32) = true) (w : World) :
    Calls Tryd.prog 8 #[.string ⟨l.toArray⟩] w fun e w' => e = MailQ (sgS (sgS (tkS l) [44]) [32]) (!tkO l || sgB (tkS l) [44] || sgB (sgS (tkS l) [44]) [32]) 2 ∧ Bl w w' := by
  have hR0 := Rd_new w l
  have hb0 := u8_lt (l[0]'h0)
  have h0' : (0 : Int) < l.length := by omega
  have hne : l.isEmpty = false := by cases l <;> simp at h0 ⊢
  have h1' : (1 : Int) < (sgS (sgS (tkS l) [44]) [32]).length := by omega
  have hb1 := u8_lt ((sgS (sgS (tkS l) [44]) [32])[1]'h1)
  go_enter Tryd.func8, Tryd.ntmps8
  go_wp2_with (first | (go_at_call 15; refine (sign_c _ _ _ _ _ (by assumption) (by repeat (first | assumption | refine Nat.le_trans (sgS_len _ _) ?_ | refine Nat.le_trans (dgS_len _ _) ?_ | refine Nat.le_trans (ckS_len _) ?_ | refine Nat.le_trans (tkS_len _) ?_)) (by decide)).mono ?_; rintro e w' ⟨rfl, hr, hm⟩; (try clear c0 c1 f0 f1 hlt); have hlt := hr.lt; obtain ⟨c0, c1, f0, f1⟩ := hr.cells) | (go_at_call 14; (with_reducible (first | refine (dig2_c _ _ _ _ _ (by assumption) (by repeat (first | assumption | refine Nat.le_trans (sgS_len _ _) ?_ | refine Nat.le_trans (dgS_len _ _) ?_ | refine Nat.le_trans (ckS_len _) ?_ | refine Nat.le_trans (tkS_len _) ?_))).mono ?_ | refine (dig4_c _ _ _ _ _ (by assumption) (by repeat (first | assumption | refine Nat.le_trans (sgS_len _ _) ?_ | refine Nat.le_trans (dgS_len _ _) ?_ | refine Nat.le_trans (ckS_len _) ?_ | refine Nat.le_trans (tkS_len _) ?_))).mono ?_ | refine (dig1_c _ _ _ _ _ (by assumption) (by repeat (first | assumption | refine Nat.le_trans (sgS_len _ _) ?_ | refine Nat.le_trans (dgS_len _ _) ?_ | refine Nat.le_trans (ckS_len _) ?_ | refine Nat.le_trans (tkS_len _) ?_))).mono ?_)); rintro e w' ⟨rfl, hr, hm⟩; (try clear c0 c1 f0 f1 hlt); have hlt := hr.lt; obtain ⟨c0, c1, f0, f1⟩ := hr.cells) | (go_at_call 20; refine (take_c _ _ _ _ (by assumption) (by repeat (first | assumption | refine Nat.le_trans (sgS_len _ _) ?_ | refine Nat.le_trans (dgS_len _ _) ?_ | refine Nat.le_trans (ckS_len _) ?_ | refine Nat.le_trans (tkS_len _) ?_))).mono ?_; rintro e w' ⟨rfl, hr, hm⟩; (try clear c0 c1 f0 f1 hlt); have hlt := hr.lt; obtain ⟨c0, c1, f0, f1⟩ := hr.cells) | (go_at_call 21; refine (month_c _ _ _ _ (by assumption) (by repeat (first | assumption | refine Nat.le_trans (sgS_len _ _) ?_ | refine Nat.le_trans (dgS_len _ _) ?_ | refine Nat.le_trans (ckS_len _) ?_ | refine Nat.le_trans (tkS_len _) ?_))).mono ?_; rintro e w' ⟨rfl, hr, hm⟩; (try clear c0 c1 f0 f1 hlt); have hlt := hr.lt; obtain ⟨c0, c1, f0, f1⟩ := hr.cells) | (go_at_call 16; refine (clock_c _ _ _ _ (by assumption) (by repeat (first | assumption | refine Nat.le_trans (sgS_len _ _) ?_ | refine Nat.le_trans (dgS_len _ _) ?_ | refine Nat.le_trans (ckS_len _) ?_ | refine Nat.le_trans (tkS_len _) ?_))).mono ?_; rintro e w' ⟨rfl, hr, hm⟩; (try clear c0 c1 f0 f1 hlt); have hlt := hr.lt; obtain ⟨c0, c1, f0, f1⟩ := hr.cells) | (go_at_call 19; refine (letter_c _ (by omega) (by omega) _).mono ?_; rintro e w' ⟨rfl, rfl⟩) | (go_at_call 18; refine (zone_c _ _ _ _ _ (by assumption) (by repeat (first | assumption | refine Nat.le_trans (sgS_len _ _) ?_ | refine Nat.le_trans (dgS_len _ _) ?_ | refine Nat.le_trans (ckS_len _) ?_ | refine Nat.le_trans (tkS_len _) ?_)) (Or.inl rfl)).mono ?_; rintro e w' ⟨rfl, hr, hm⟩) | (go_at_call 17; refine (told_c _ _ _ _ _ _ _ _ _ (by first | exact Rd.set0 (by assumption) [] | assumption) (dg4_bd _).1 (dg4_bd _).2 (monIx_bd _).1 (monIx_bd _).2 (by first | exact (dg2_bd _).1 | exact (dg1_bd _).1) (by first | exact (dg2_bd _).2 | exact (dg1_bd _).2) (ck_bd _).1 (ck_bd _).2 (by first | decide | exact (zn_bd _ _).1) (by first | decide | exact (zn_bd _ _).2)).mono ?_; rintro e w' ⟨he, hb⟩; unfold TdT at he; subst he))
  all_goals
    go_ret2
    refine ⟨?_, ?_⟩
    · simp only [beq_iff_eq, beq_eq_false_iff_ne] at *
      first
        | (rw [MailQ, if_pos (by simp only [mA4, mA3, mA2, mA1]; first | exact Or.inl (by assumption) | assumption)])
        | (rw [MailQ, if_neg (by simp only [mA4, mA3, mA2, mA1]; rintro (h | h) <;> simp_all)])
      simp [TdT, mBad, mA4, mA3, mA2, mA1, Bool.or_assoc]
      exact ⟨rfl, rfl⟩
    · refine Mo.bl_new (o := .cells #[.string ⟨l.toArray⟩, .bool false] 37) (Mo.trans ?_ (Mo.of_bl hb))
      repeat (first | assumption | refine Mo.set ?_ _ _ | refine Mo.trans ?_ (by assumption))

set_option maxRecDepth 100000 in
set_option maxHeartbeats 2000000 in
theorem mail_3a (l : List UInt8) (hl : l.length ≤ 9223372036854775807) (h0 : 0 < l.length) (hp : Ltr (l[0]'h0).toNat = true) (h1 : 1 < (sgS (sgS (tkS l) [44]) [32]).length) (hc : (((((sgS (sgS (tkS l) [44]) [32])[1]'h1)).toNat : Int) != 32) = false) (w : World) :
    Calls Tryd.prog 8 #[.string ⟨l.toArray⟩] w fun e w' => e = MailQ (sgS (sgS (tkS l) [44]) [32]) (!tkO l || sgB (tkS l) [44] || sgB (sgS (tkS l) [44]) [32]) 1 ∧ Bl w w' := by
  have hR0 := Rd_new w l
  have hb0 := u8_lt (l[0]'h0)
  have h0' : (0 : Int) < l.length := by omega
  have hne : l.isEmpty = false := by cases l <;> simp at h0 ⊢
  have h1' : (1 : Int) < (sgS (sgS (tkS l) [44]) [32]).length := by omega
  have hb1 := u8_lt ((sgS (sgS (tkS l) [44]) [32])[1]'h1)
  go_enter Tryd.func8, Tryd.ntmps8
  go_wp2_with (first | (go_at_call 15; refine (sign_c _ _ _ _ _ (by assumption) (by repeat (first | assumption | refine Nat.le_trans (sgS_len _ _) ?_ | refine Nat.le_trans (dgS_len _ _) ?_ | refine Nat.le_trans (ckS_len _) ?_ | refine Nat.le_trans (tkS_len _) ?_)) (by decide)).mono ?_; rintro e w' ⟨rfl, hr, hm⟩; (try clear c0 c1 f0 f1 hlt); have hlt := hr.lt; obtain ⟨c0, c1, f0, f1⟩ := hr.cells) | (go_at_call 14; (with_reducible (first | refine (dig2_c _ _ _ _ _ (by assumption) (by repeat (first | assumption | refine Nat.le_trans (sgS_len _ _) ?_ | refine Nat.le_trans (dgS_len _ _) ?_ | refine Nat.le_trans (ckS_len _) ?_ | refine Nat.le_trans (tkS_len _) ?_))).mono ?_ | refine (dig4_c _ _ _ _ _ (by assumption) (by repeat (first | assumption | refine Nat.le_trans (sgS_len _ _) ?_ | refine Nat.le_trans (dgS_len _ _) ?_ | refine Nat.le_trans (ckS_len _) ?_ | refine Nat.le_trans (tkS_len _) ?_))).mono ?_ | refine (dig1_c _ _ _ _ _ (by assumption) (by repeat (first | assumption | refine Nat.le_trans (sgS_len _ _) ?_ | refine Nat.le_trans (dgS_len _ _) ?_ | refine Nat.le_trans (ckS_len _) ?_ | refine Nat.le_trans (tkS_len _) ?_))).mono ?_)); rintro e w' ⟨rfl, hr, hm⟩; (try clear c0 c1 f0 f1 hlt); have hlt := hr.lt; obtain ⟨c0, c1, f0, f1⟩ := hr.cells) | (go_at_call 20; refine (take_c _ _ _ _ (by assumption) (by repeat (first | assumption | refine Nat.le_trans (sgS_len _ _) ?_ | refine Nat.le_trans (dgS_len _ _) ?_ | refine Nat.le_trans (ckS_len _) ?_ | refine Nat.le_trans (tkS_len _) ?_))).mono ?_; rintro e w' ⟨rfl, hr, hm⟩; (try clear c0 c1 f0 f1 hlt); have hlt := hr.lt; obtain ⟨c0, c1, f0, f1⟩ := hr.cells) | (go_at_call 21; refine (month_c _ _ _ _ (by assumption) (by repeat (first | assumption | refine Nat.le_trans (sgS_len _ _) ?_ | refine Nat.le_trans (dgS_len _ _) ?_ | refine Nat.le_trans (ckS_len _) ?_ | refine Nat.le_trans (tkS_len _) ?_))).mono ?_; rintro e w' ⟨rfl, hr, hm⟩; (try clear c0 c1 f0 f1 hlt); have hlt := hr.lt; obtain ⟨c0, c1, f0, f1⟩ := hr.cells) | (go_at_call 16; refine (clock_c _ _ _ _ (by assumption) (by repeat (first | assumption | refine Nat.le_trans (sgS_len _ _) ?_ | refine Nat.le_trans (dgS_len _ _) ?_ | refine Nat.le_trans (ckS_len _) ?_ | refine Nat.le_trans (tkS_len _) ?_))).mono ?_; rintro e w' ⟨rfl, hr, hm⟩; (try clear c0 c1 f0 f1 hlt); have hlt := hr.lt; obtain ⟨c0, c1, f0, f1⟩ := hr.cells) | (go_at_call 19; refine (letter_c _ (by omega) (by omega) _).mono ?_; rintro e w' ⟨rfl, rfl⟩) | (go_at_call 18; refine (zone_c _ _ _ _ _ (by assumption) (by repeat (first | assumption | refine Nat.le_trans (sgS_len _ _) ?_ | refine Nat.le_trans (dgS_len _ _) ?_ | refine Nat.le_trans (ckS_len _) ?_ | refine Nat.le_trans (tkS_len _) ?_)) (Or.inl rfl)).mono ?_; rintro e w' ⟨rfl, hr, hm⟩) | (go_at_call 17; refine (told_c _ _ _ _ _ _ _ _ _ (by first | exact Rd.set0 (by assumption) [] | assumption) (dg4_bd _).1 (dg4_bd _).2 (monIx_bd _).1 (monIx_bd _).2 (by first | exact (dg2_bd _).1 | exact (dg1_bd _).1) (by first | exact (dg2_bd _).2 | exact (dg1_bd _).2) (ck_bd _).1 (ck_bd _).2 (by first | decide | exact (zn_bd _ _).1) (by first | decide | exact (zn_bd _ _).2)).mono ?_; rintro e w' ⟨he, hb⟩; unfold TdT at he; subst he))
  all_goals
    go_ret2
    refine ⟨?_, ?_⟩
    · simp only [beq_iff_eq, beq_eq_false_iff_ne] at *
      first
        | (rw [MailQ, if_pos (by simp only [mA4, mA3, mA2, mA1]; first | exact Or.inl (by assumption) | assumption)])
        | (rw [MailQ, if_neg (by simp only [mA4, mA3, mA2, mA1]; rintro (h | h) <;> simp_all)])
      simp [TdT, mBad, mA4, mA3, mA2, mA1, Bool.or_assoc]
      exact ⟨rfl, rfl⟩
    · refine Mo.bl_new (o := .cells #[.string ⟨l.toArray⟩, .bool false] 37) (Mo.trans ?_ (Mo.of_bl hb))
      repeat (first | assumption | refine Mo.set ?_ _ _ | refine Mo.trans ?_ (by assumption))

set_option maxRecDepth 100000 in
set_option maxHeartbeats 2000000 in
theorem mail_3c (l : List UInt8) (hl : l.length ≤ 9223372036854775807) (h0 : 0 < l.length) (hp : Ltr (l[0]'h0).toNat = true) (h1 : (sgS (sgS (tkS l) [44]) [32]).length ≤ 1) (w : World) :
    Calls Tryd.prog 8 #[.string ⟨l.toArray⟩] w fun e w' => e = MailQ (sgS (sgS (tkS l) [44]) [32]) (!tkO l || sgB (tkS l) [44] || sgB (sgS (tkS l) [44]) [32]) 1 ∧ Bl w w' := by
  have hR0 := Rd_new w l
  have hb0 := u8_lt (l[0]'h0)
  have h0' : (0 : Int) < l.length := by omega
  have hne : l.isEmpty = false := by cases l <;> simp at h0 ⊢
  have h1' : ((sgS (sgS (tkS l) [44]) [32]).length : Int) ≤ 1 := by omega
  go_enter Tryd.func8, Tryd.ntmps8
  go_wp2_with (first | (go_at_call 15; refine (sign_c _ _ _ _ _ (by assumption) (by repeat (first | assumption | refine Nat.le_trans (sgS_len _ _) ?_ | refine Nat.le_trans (dgS_len _ _) ?_ | refine Nat.le_trans (ckS_len _) ?_ | refine Nat.le_trans (tkS_len _) ?_)) (by decide)).mono ?_; rintro e w' ⟨rfl, hr, hm⟩; (try clear c0 c1 f0 f1 hlt); have hlt := hr.lt; obtain ⟨c0, c1, f0, f1⟩ := hr.cells) | (go_at_call 14; (with_reducible (first | refine (dig2_c _ _ _ _ _ (by assumption) (by repeat (first | assumption | refine Nat.le_trans (sgS_len _ _) ?_ | refine Nat.le_trans (dgS_len _ _) ?_ | refine Nat.le_trans (ckS_len _) ?_ | refine Nat.le_trans (tkS_len _) ?_))).mono ?_ | refine (dig4_c _ _ _ _ _ (by assumption) (by repeat (first | assumption | refine Nat.le_trans (sgS_len _ _) ?_ | refine Nat.le_trans (dgS_len _ _) ?_ | refine Nat.le_trans (ckS_len _) ?_ | refine Nat.le_trans (tkS_len _) ?_))).mono ?_ | refine (dig1_c _ _ _ _ _ (by assumption) (by repeat (first | assumption | refine Nat.le_trans (sgS_len _ _) ?_ | refine Nat.le_trans (dgS_len _ _) ?_ | refine Nat.le_trans (ckS_len _) ?_ | refine Nat.le_trans (tkS_len _) ?_))).mono ?_)); rintro e w' ⟨rfl, hr, hm⟩; (try clear c0 c1 f0 f1 hlt); have hlt := hr.lt; obtain ⟨c0, c1, f0, f1⟩ := hr.cells) | (go_at_call 20; refine (take_c _ _ _ _ (by assumption) (by repeat (first | assumption | refine Nat.le_trans (sgS_len _ _) ?_ | refine Nat.le_trans (dgS_len _ _) ?_ | refine Nat.le_trans (ckS_len _) ?_ | refine Nat.le_trans (tkS_len _) ?_))).mono ?_; rintro e w' ⟨rfl, hr, hm⟩; (try clear c0 c1 f0 f1 hlt); have hlt := hr.lt; obtain ⟨c0, c1, f0, f1⟩ := hr.cells) | (go_at_call 21; refine (month_c _ _ _ _ (by assumption) (by repeat (first | assumption | refine Nat.le_trans (sgS_len _ _) ?_ | refine Nat.le_trans (dgS_len _ _) ?_ | refine Nat.le_trans (ckS_len _) ?_ | refine Nat.le_trans (tkS_len _) ?_))).mono ?_; rintro e w' ⟨rfl, hr, hm⟩; (try clear c0 c1 f0 f1 hlt); have hlt := hr.lt; obtain ⟨c0, c1, f0, f1⟩ := hr.cells) | (go_at_call 16; refine (clock_c _ _ _ _ (by assumption) (by repeat (first | assumption | refine Nat.le_trans (sgS_len _ _) ?_ | refine Nat.le_trans (dgS_len _ _) ?_ | refine Nat.le_trans (ckS_len _) ?_ | refine Nat.le_trans (tkS_len _) ?_))).mono ?_; rintro e w' ⟨rfl, hr, hm⟩; (try clear c0 c1 f0 f1 hlt); have hlt := hr.lt; obtain ⟨c0, c1, f0, f1⟩ := hr.cells) | (go_at_call 19; refine (letter_c _ (by omega) (by omega) _).mono ?_; rintro e w' ⟨rfl, rfl⟩) | (go_at_call 18; refine (zone_c _ _ _ _ _ (by assumption) (by repeat (first | assumption | refine Nat.le_trans (sgS_len _ _) ?_ | refine Nat.le_trans (dgS_len _ _) ?_ | refine Nat.le_trans (ckS_len _) ?_ | refine Nat.le_trans (tkS_len _) ?_)) (Or.inl rfl)).mono ?_; rintro e w' ⟨rfl, hr, hm⟩) | (go_at_call 17; refine (told_c _ _ _ _ _ _ _ _ _ (by first | exact Rd.set0 (by assumption) [] | assumption) (dg4_bd _).1 (dg4_bd _).2 (monIx_bd _).1 (monIx_bd _).2 (by first | exact (dg2_bd _).1 | exact (dg1_bd _).1) (by first | exact (dg2_bd _).2 | exact (dg1_bd _).2) (ck_bd _).1 (ck_bd _).2 (by first | decide | exact (zn_bd _ _).1) (by first | decide | exact (zn_bd _ _).2)).mono ?_; rintro e w' ⟨he, hb⟩; unfold TdT at he; subst he))
  all_goals
    go_ret2
    refine ⟨?_, ?_⟩
    · simp only [beq_iff_eq, beq_eq_false_iff_ne] at *
      first
        | (rw [MailQ, if_pos (by simp only [mA4, mA3, mA2, mA1]; first | exact Or.inl (by assumption) | assumption)])
        | (rw [MailQ, if_neg (by simp only [mA4, mA3, mA2, mA1]; rintro (h | h) <;> simp_all)])
      simp [TdT, mBad, mA4, mA3, mA2, mA1, Bool.or_assoc]
      exact ⟨rfl, rfl⟩
    · refine Mo.bl_new (o := .cells #[.string ⟨l.toArray⟩, .bool false] 37) (Mo.trans ?_ (Mo.of_bl hb))
      repeat (first | assumption | refine Mo.set ?_ _ _ | refine Mo.trans ?_ (by assumption))

set_option maxRecDepth 100000 in
set_option maxHeartbeats 2000000 in
theorem mail_2b (l : List UInt8) (hl : l.length ≤ 9223372036854775807) (h0 : 0 < l.length) (hp : Ltr (l[0]'h0).toNat = false) (h1 : 1 < (l).length) (hc : (((((l)[1]'h1)).toNat : Int) != 32) = true) (w : World) :
    Calls Tryd.prog 8 #[.string ⟨l.toArray⟩] w fun e w' => e = MailQ (l) (false) 2 ∧ Bl w w' := by
  have hR0 := Rd_new w l
  have hb0 := u8_lt (l[0]'h0)
  have h0' : (0 : Int) < l.length := by omega
  have hne : l.isEmpty = false := by cases l <;> simp at h0 ⊢
  have h1' : (1 : Int) < (l).length := by omega
  have hb1 := u8_lt ((l)[1]'h1)
  go_enter Tryd.func8, Tryd.ntmps8
  go_wp2_with (first | (go_at_call 15; refine (sign_c _ _ _ _ _ (by assumption) (by repeat (first | assumption | refine Nat.le_trans (sgS_len _ _) ?_ | refine Nat.le_trans (dgS_len _ _) ?_ | refine Nat.le_trans (ckS_len _) ?_ | refine Nat.le_trans (tkS_len _) ?_)) (by decide)).mono ?_; rintro e w' ⟨rfl, hr, hm⟩; (try clear c0 c1 f0 f1 hlt); have hlt := hr.lt; obtain ⟨c0, c1, f0, f1⟩ := hr.cells) | (go_at_call 14; (with_reducible (first | refine (dig2_c _ _ _ _ _ (by assumption) (by repeat (first | assumption | refine Nat.le_trans (sgS_len _ _) ?_ | refine Nat.le_trans (dgS_len _ _) ?_ | refine Nat.le_trans (ckS_len _) ?_ | refine Nat.le_trans (tkS_len _) ?_))).mono ?_ | refine (dig4_c _ _ _ _ _ (by assumption) (by repeat (first | assumption | refine Nat.le_trans (sgS_len _ _) ?_ | refine Nat.le_trans (dgS_len _ _) ?_ | refine Nat.le_trans (ckS_len _) ?_ | refine Nat.le_trans (tkS_len _) ?_))).mono ?_ | refine (dig1_c _ _ _ _ _ (by assumption) (by repeat (first | assumption | refine Nat.le_trans (sgS_len _ _) ?_ | refine Nat.le_trans (dgS_len _ _) ?_ | refine Nat.le_trans (ckS_len _) ?_ | refine Nat.le_trans (tkS_len _) ?_))).mono ?_)); rintro e w' ⟨rfl, hr, hm⟩; (try clear c0 c1 f0 f1 hlt); have hlt := hr.lt; obtain ⟨c0, c1, f0, f1⟩ := hr.cells) | (go_at_call 20; refine (take_c _ _ _ _ (by assumption) (by repeat (first | assumption | refine Nat.le_trans (sgS_len _ _) ?_ | refine Nat.le_trans (dgS_len _ _) ?_ | refine Nat.le_trans (ckS_len _) ?_ | refine Nat.le_trans (tkS_len _) ?_))).mono ?_; rintro e w' ⟨rfl, hr, hm⟩; (try clear c0 c1 f0 f1 hlt); have hlt := hr.lt; obtain ⟨c0, c1, f0, f1⟩ := hr.cells) | (go_at_call 21; refine (month_c _ _ _ _ (by assumption) (by repeat (first | assumption | refine Nat.le_trans (sgS_len _ _) ?_ | refine Nat.le_trans (dgS_len _ _) ?_ | refine Nat.le_trans (ckS_len _) ?_ | refine Nat.le_trans (tkS_len _) ?_))).mono ?_; rintro e w' ⟨rfl, hr, hm⟩; (try clear c0 c1 f0 f1 hlt); have hlt := hr.lt; obtain ⟨c0, c1, f0, f1⟩ := hr.cells) | (go_at_call 16; refine (clock_c _ _ _ _ (by assumption) (by repeat (first | assumption | refine Nat.le_trans (sgS_len _ _) ?_ | refine Nat.le_trans (dgS_len _ _) ?_ | refine Nat.le_trans (ckS_len _) ?_ | refine Nat.le_trans (tkS_len _) ?_))).mono ?_; rintro e w' ⟨rfl, hr, hm⟩; (try clear c0 c1 f0 f1 hlt); have hlt := hr.lt; obtain ⟨c0, c1, f0, f1⟩ := hr.cells) | (go_at_call 19; refine (letter_c _ (by omega) (by omega) _).mono ?_; rintro e w' ⟨rfl, rfl⟩) | (go_at_call 18; refine (zone_c _ _ _ _ _ (by assumption) (by repeat (first | assumption | refine Nat.le_trans (sgS_len _ _) ?_ | refine Nat.le_trans (dgS_len _ _) ?_ | refine Nat.le_trans (ckS_len _) ?_ | refine Nat.le_trans (tkS_len _) ?_)) (Or.inl rfl)).mono ?_; rintro e w' ⟨rfl, hr, hm⟩) | (go_at_call 17; refine (told_c _ _ _ _ _ _ _ _ _ (by first | exact Rd.set0 (by assumption) [] | assumption) (dg4_bd _).1 (dg4_bd _).2 (monIx_bd _).1 (monIx_bd _).2 (by first | exact (dg2_bd _).1 | exact (dg1_bd _).1) (by first | exact (dg2_bd _).2 | exact (dg1_bd _).2) (ck_bd _).1 (ck_bd _).2 (by first | decide | exact (zn_bd _ _).1) (by first | decide | exact (zn_bd _ _).2)).mono ?_; rintro e w' ⟨he, hb⟩; unfold TdT at he; subst he))
  all_goals
    go_ret2
    refine ⟨?_, ?_⟩
    · simp only [beq_iff_eq, beq_eq_false_iff_ne] at *
      first
        | (rw [MailQ, if_pos (by simp only [mA4, mA3, mA2, mA1]; first | exact Or.inl (by assumption) | assumption)])
        | (rw [MailQ, if_neg (by simp only [mA4, mA3, mA2, mA1]; rintro (h | h) <;> simp_all)])
      simp [TdT, mBad, mA4, mA3, mA2, mA1, Bool.or_assoc]
      exact ⟨rfl, rfl⟩
    · refine Mo.bl_new (o := .cells #[.string ⟨l.toArray⟩, .bool false] 37) (Mo.trans ?_ (Mo.of_bl hb))
      repeat (first | assumption | refine Mo.set ?_ _ _ | refine Mo.trans ?_ (by assumption))

set_option maxRecDepth 100000 in
set_option maxHeartbeats 2000000 in
theorem mail_2a (l : List UInt8) (hl : l.length ≤ 9223372036854775807) (h0 : 0 < l.length) (hp : Ltr (l[0]'h0).toNat = false) (h1 : 1 < (l).length) (hc : (((((l)[1]'h1)).toNat : Int) != 32) = false) (w : World) :
    Calls Tryd.prog 8 #[.string ⟨l.toArray⟩] w fun e w' => e = MailQ (l) (false) 1 ∧ Bl w w' := by
  have hR0 := Rd_new w l
  have hb0 := u8_lt (l[0]'h0)
  have h0' : (0 : Int) < l.length := by omega
  have hne : l.isEmpty = false := by cases l <;> simp at h0 ⊢
  have h1' : (1 : Int) < (l).length := by omega
  have hb1 := u8_lt ((l)[1]'h1)
  go_enter Tryd.func8, Tryd.ntmps8
  go_wp2_with (first | (go_at_call 15; refine (sign_c _ _ _ _ _ (by assumption) (by repeat (first | assumption | refine Nat.le_trans (sgS_len _ _) ?_ | refine Nat.le_trans (dgS_len _ _) ?_ | refine Nat.le_trans (ckS_len _) ?_ | refine Nat.le_trans (tkS_len _) ?_)) (by decide)).mono ?_; rintro e w' ⟨rfl, hr, hm⟩; (try clear c0 c1 f0 f1 hlt); have hlt := hr.lt; obtain ⟨c0, c1, f0, f1⟩ := hr.cells) | (go_at_call 14; (with_reducible (first | refine (dig2_c _ _ _ _ _ (by assumption) (by repeat (first | assumption | refine Nat.le_trans (sgS_len _ _) ?_ | refine Nat.le_trans (dgS_len _ _) ?_ | refine Nat.le_trans (ckS_len _) ?_ | refine Nat.le_trans (tkS_len _) ?_))).mono ?_ | refine (dig4_c _ _ _ _ _ (by assumption) (by repeat (first | assumption | refine Nat.le_trans (sgS_len _ _) ?_ | refine Nat.le_trans (dgS_len _ _) ?_ | refine Nat.le_trans (ckS_len _) ?_ | refine Nat.le_trans (tkS_len _) ?_))).mono ?_ | refine (dig1_c _ _ _ _ _ (by assumption) (by repeat (first | assumption | refine Nat.le_trans (sgS_len _ _) ?_ | refine Nat.le_trans (dgS_len _ _) ?_ | refine Nat.le_trans (ckS_len _) ?_ | refine Nat.le_trans (tkS_len _) ?_))).mono ?_)); rintro e w' ⟨rfl, hr, hm⟩; (try clear c0 c1 f0 f1 hlt); have hlt := hr.lt; obtain ⟨c0, c1, f0, f1⟩ := hr.cells) | (go_at_call 20; refine (take_c _ _ _ _ (by assumption) (by repeat (first | assumption | refine Nat.le_trans (sgS_len _ _) ?_ | refine Nat.le_trans (dgS_len _ _) ?_ | refine Nat.le_trans (ckS_len _) ?_ | refine Nat.le_trans (tkS_len _) ?_))).mono ?_; rintro e w' ⟨rfl, hr, hm⟩; (try clear c0 c1 f0 f1 hlt); have hlt := hr.lt; obtain ⟨c0, c1, f0, f1⟩ := hr.cells) | (go_at_call 21; refine (month_c _ _ _ _ (by assumption) (by repeat (first | assumption | refine Nat.le_trans (sgS_len _ _) ?_ | refine Nat.le_trans (dgS_len _ _) ?_ | refine Nat.le_trans (ckS_len _) ?_ | refine Nat.le_trans (tkS_len _) ?_))).mono ?_; rintro e w' ⟨rfl, hr, hm⟩; (try clear c0 c1 f0 f1 hlt); have hlt := hr.lt; obtain ⟨c0, c1, f0, f1⟩ := hr.cells) | (go_at_call 16; refine (clock_c _ _ _ _ (by assumption) (by repeat (first | assumption | refine Nat.le_trans (sgS_len _ _) ?_ | refine Nat.le_trans (dgS_len _ _) ?_ | refine Nat.le_trans (ckS_len _) ?_ | refine Nat.le_trans (tkS_len _) ?_))).mono ?_; rintro e w' ⟨rfl, hr, hm⟩; (try clear c0 c1 f0 f1 hlt); have hlt := hr.lt; obtain ⟨c0, c1, f0, f1⟩ := hr.cells) | (go_at_call 19; refine (letter_c _ (by omega) (by omega) _).mono ?_; rintro e w' ⟨rfl, rfl⟩) | (go_at_call 18; refine (zone_c _ _ _ _ _ (by assumption) (by repeat (first | assumption | refine Nat.le_trans (sgS_len _ _) ?_ | refine Nat.le_trans (dgS_len _ _) ?_ | refine Nat.le_trans (ckS_len _) ?_ | refine Nat.le_trans (tkS_len _) ?_)) (Or.inl rfl)).mono ?_; rintro e w' ⟨rfl, hr, hm⟩) | (go_at_call 17; refine (told_c _ _ _ _ _ _ _ _ _ (by first | exact Rd.set0 (by assumption) [] | assumption) (dg4_bd _).1 (dg4_bd _).2 (monIx_bd _).1 (monIx_bd _).2 (by first | exact (dg2_bd _).1 | exact (dg1_bd _).1) (by first | exact (dg2_bd _).2 | exact (dg1_bd _).2) (ck_bd _).1 (ck_bd _).2 (by first | decide | exact (zn_bd _ _).1) (by first | decide | exact (zn_bd _ _).2)).mono ?_; rintro e w' ⟨he, hb⟩; unfold TdT at he; subst he))
  all_goals
    go_ret2
    refine ⟨?_, ?_⟩
    · simp only [beq_iff_eq, beq_eq_false_iff_ne] at *
      first
        | (rw [MailQ, if_pos (by simp only [mA4, mA3, mA2, mA1]; first | exact Or.inl (by assumption) | assumption)])
        | (rw [MailQ, if_neg (by simp only [mA4, mA3, mA2, mA1]; rintro (h | h) <;> simp_all)])
      simp [TdT, mBad, mA4, mA3, mA2, mA1, Bool.or_assoc]
      exact ⟨rfl, rfl⟩
    · refine Mo.bl_new (o := .cells #[.string ⟨l.toArray⟩, .bool false] 37) (Mo.trans ?_ (Mo.of_bl hb))
      repeat (first | assumption | refine Mo.set ?_ _ _ | refine Mo.trans ?_ (by assumption))

set_option maxRecDepth 100000 in
set_option maxHeartbeats 2000000 in
theorem mail_2c (l : List UInt8) (hl : l.length ≤ 9223372036854775807) (h0 : 0 < l.length) (hp : Ltr (l[0]'h0).toNat = false) (h1 : (l).length ≤ 1) (w : World) :
    Calls Tryd.prog 8 #[.string ⟨l.toArray⟩] w fun e w' => e = MailQ (l) (false) 1 ∧ Bl w w' := by
  have hR0 := Rd_new w l
  have hb0 := u8_lt (l[0]'h0)
  have h0' : (0 : Int) < l.length := by omega
  have hne : l.isEmpty = false := by cases l <;> simp at h0 ⊢
  have h1' : ((l).length : Int) ≤ 1 := by omega
  go_enter Tryd.func8, Tryd.ntmps8
  go_wp2_with (first | (go_at_call 15; refine (sign_c _ _ _ _ _ (by assumption) (by repeat (first | assumption | refine Nat.le_trans (sgS_len _ _) ?_ | refine Nat.le_trans (dgS_len _ _) ?_ | refine Nat.le_trans (ckS_len _) ?_ | refine Nat.le_trans (tkS_len _) ?_)) (by decide)).mono ?_; rintro e w' ⟨rfl, hr, hm⟩; (try clear c0 c1 f0 f1 hlt); have hlt := hr.lt; obtain ⟨c0, c1, f0, f1⟩ := hr.cells) | (go_at_call 14; (with_reducible (first | refine (dig2_c _ _ _ _ _ (by assumption) (by repeat (first | assumption | refine Nat.le_trans (sgS_len _ _) ?_ | refine Nat.le_trans (dgS_len _ _) ?_ | refine Nat.le_trans (ckS_len _) ?_ | refine Nat.le_trans (tkS_len _) ?_))).mono ?_ | refine (dig4_c _ _ _ _ _ (by assumption) (by repeat (first | assumption | refine Nat.le_trans (sgS_len _ _) ?_ | refine Nat.le_trans (dgS_len _ _) ?_ | refine Nat.le_trans (ckS_len _) ?_ | refine Nat.le_trans (tkS_len _) ?_))).mono ?_ | refine (dig1_c _ _ _ _ _ (by assumption) (by repeat (first | assumption | refine Nat.le_trans (sgS_len _ _) ?_ | refine Nat.le_trans (dgS_len _ _) ?_ | refine Nat.le_trans (ckS_len _) ?_ | refine Nat.le_trans (tkS_len _) ?_))).mono ?_)); rintro e w' ⟨rfl, hr, hm⟩; (try clear c0 c1 f0 f1 hlt); have hlt := hr.lt; obtain ⟨c0, c1, f0, f1⟩ := hr.cells) | (go_at_call 20; refine (take_c _ _ _ _ (by assumption) (by repeat (first | assumption | refine Nat.le_trans (sgS_len _ _) ?_ | refine Nat.le_trans (dgS_len _ _) ?_ | refine Nat.le_trans (ckS_len _) ?_ | refine Nat.le_trans (tkS_len _) ?_))).mono ?_; rintro e w' ⟨rfl, hr, hm⟩; (try clear c0 c1 f0 f1 hlt); have hlt := hr.lt; obtain ⟨c0, c1, f0, f1⟩ := hr.cells) | (go_at_call 21; refine (month_c _ _ _ _ (by assumption) (by repeat (first | assumption | refine Nat.le_trans (sgS_len _ _) ?_ | refine Nat.le_trans (dgS_len _ _) ?_ | refine Nat.le_trans (ckS_len _) ?_ | refine Nat.le_trans (tkS_len _) ?_))).mono ?_; rintro e w' ⟨rfl, hr, hm⟩; (try clear c0 c1 f0 f1 hlt); have hlt := hr.lt; obtain ⟨c0, c1, f0, f1⟩ := hr.cells) | (go_at_call 16; refine (clock_c _ _ _ _ (by assumption) (by repeat (first | assumption | refine Nat.le_trans (sgS_len _ _) ?_ | refine Nat.le_trans (dgS_len _ _) ?_ | refine Nat.le_trans (ckS_len _) ?_ | refine Nat.le_trans (tkS_len _) ?_))).mono ?_; rintro e w' ⟨rfl, hr, hm⟩; (try clear c0 c1 f0 f1 hlt); have hlt := hr.lt; obtain ⟨c0, c1, f0, f1⟩ := hr.cells) | (go_at_call 19; refine (letter_c _ (by omega) (by omega) _).mono ?_; rintro e w' ⟨rfl, rfl⟩) | (go_at_call 18; refine (zone_c _ _ _ _ _ (by assumption) (by repeat (first | assumption | refine Nat.le_trans (sgS_len _ _) ?_ | refine Nat.le_trans (dgS_len _ _) ?_ | refine Nat.le_trans (ckS_len _) ?_ | refine Nat.le_trans (tkS_len _) ?_)) (Or.inl rfl)).mono ?_; rintro e w' ⟨rfl, hr, hm⟩) | (go_at_call 17; refine (told_c _ _ _ _ _ _ _ _ _ (by first | exact Rd.set0 (by assumption) [] | assumption) (dg4_bd _).1 (dg4_bd _).2 (monIx_bd _).1 (monIx_bd _).2 (by first | exact (dg2_bd _).1 | exact (dg1_bd _).1) (by first | exact (dg2_bd _).2 | exact (dg1_bd _).2) (ck_bd _).1 (ck_bd _).2 (by first | decide | exact (zn_bd _ _).1) (by first | decide | exact (zn_bd _ _).2)).mono ?_; rintro e w' ⟨he, hb⟩; unfold TdT at he; subst he))
  all_goals
    go_ret2
    refine ⟨?_, ?_⟩
    · simp only [beq_iff_eq, beq_eq_false_iff_ne] at *
      first
        | (rw [MailQ, if_pos (by simp only [mA4, mA3, mA2, mA1]; first | exact Or.inl (by assumption) | assumption)])
        | (rw [MailQ, if_neg (by simp only [mA4, mA3, mA2, mA1]; rintro (h | h) <;> simp_all)])
      simp [TdT, mBad, mA4, mA3, mA2, mA1, Bool.or_assoc]
      exact ⟨rfl, rfl⟩
    · refine Mo.bl_new (o := .cells #[.string ⟨l.toArray⟩, .bool false] 37) (Mo.trans ?_ (Mo.of_bl hb))
      repeat (first | assumption | refine Mo.set ?_ _ _ | refine Mo.trans ?_ (by assumption))

set_option maxRecDepth 100000 in
set_option maxHeartbeats 2000000 in
theorem mail_1 (l : List UInt8) (hl : l.length ≤ 9223372036854775807) (h0 : l = []) (w : World) :
    Calls Tryd.prog 8 #[.string ⟨l.toArray⟩] w fun e w' => e = MailQ ([]) (false) 1 ∧ Bl w w' := by
  subst h0
  have hR0 := Rd_new w []
  go_enter Tryd.func8, Tryd.ntmps8
  go_wp2_with (first | (go_at_call 15; refine (sign_c _ _ _ _ _ (by assumption) (by repeat (first | assumption | refine Nat.le_trans (sgS_len _ _) ?_ | refine Nat.le_trans (dgS_len _ _) ?_ | refine Nat.le_trans (ckS_len _) ?_ | refine Nat.le_trans (tkS_len _) ?_)) (by decide)).mono ?_; rintro e w' ⟨rfl, hr, hm⟩; (try clear c0 c1 f0 f1 hlt); have hlt := hr.lt; obtain ⟨c0, c1, f0, f1⟩ := hr.cells) | (go_at_call 14; (with_reducible (first | refine (dig2_c _ _ _ _ _ (by assumption) (by repeat (first | assumption | refine Nat.le_trans (sgS_len _ _) ?_ | refine Nat.le_trans (dgS_len _ _) ?_ | refine Nat.le_trans (ckS_len _) ?_ | refine Nat.le_trans (tkS_len _) ?_))).mono ?_ | refine (dig4_c _ _ _ _ _ (by assumption) (by repeat (first | assumption | refine Nat.le_trans (sgS_len _ _) ?_ | refine Nat.le_trans (dgS_len _ _) ?_ | refine Nat.le_trans (ckS_len _) ?_ | refine Nat.le_trans (tkS_len _) ?_))).mono ?_ | refine (dig1_c _ _ _ _ _ (by assumption) (by repeat (first | assumption | refine Nat.le_trans (sgS_len _ _) ?_ | refine Nat.le_trans (dgS_len _ _) ?_ | refine Nat.le_trans (ckS_len _) ?_ | refine Nat.le_trans (tkS_len _) ?_))).mono ?_)); rintro e w' ⟨rfl, hr, hm⟩; (try clear c0 c1 f0 f1 hlt); have hlt := hr.lt; obtain ⟨c0, c1, f0, f1⟩ := hr.cells) | (go_at_call 20; refine (take_c _ _ _ _ (by assumption) (by repeat (first | assumption | refine Nat.le_trans (sgS_len _ _) ?_ | refine Nat.le_trans (dgS_len _ _) ?_ | refine Nat.le_trans (ckS_len _) ?_ | refine Nat.le_trans (tkS_len _) ?_))).mono ?_; rintro e w' ⟨rfl, hr, hm⟩; (try clear c0 c1 f0 f1 hlt); have hlt := hr.lt; obtain ⟨c0, c1, f0, f1⟩ := hr.cells) | (go_at_call 21; refine (month_c _ _ _ _ (by assumption) (by repeat (first | assumption | refine Nat.le_trans (sgS_len _ _) ?_ | refine Nat.le_trans (dgS_len _ _) ?_ | refine Nat.le_trans (ckS_len _) ?_ | refine Nat.le_trans (tkS_len _) ?_))).mono ?_; rintro e w' ⟨rfl, hr, hm⟩; (try clear c0 c1 f0 f1 hlt); have hlt := hr.lt; obtain ⟨c0, c1, f0, f1⟩ := hr.cells) | (go_at_call 16; refine (clock_c _ _ _ _ (by assumption) (by repeat (first | assumption | refine Nat.le_trans (sgS_len _ _) ?_ | refine Nat.le_trans (dgS_len _ _) ?_ | refine Nat.le_trans (ckS_len _) ?_ | refine Nat.le_trans (tkS_len _) ?_))).mono ?_; rintro e w' ⟨rfl, hr, hm⟩; (try clear c0 c1 f0 f1 hlt); have hlt := hr.lt; obtain ⟨c0, c1, f0, f1⟩ := hr.cells) | (go_at_call 19; refine (letter_c _ (by omega) (by omega) _).mono ?_; rintro e w' ⟨rfl, rfl⟩) | (go_at_call 18; refine (zone_c _ _ _ _ _ (by assumption) (by repeat (first | assumption | refine Nat.le_trans (sgS_len _ _) ?_ | refine Nat.le_trans (dgS_len _ _) ?_ | refine Nat.le_trans (ckS_len _) ?_ | refine Nat.le_trans (tkS_len _) ?_)) (Or.inl rfl)).mono ?_; rintro e w' ⟨rfl, hr, hm⟩) | (go_at_call 17; refine (told_c _ _ _ _ _ _ _ _ _ (by first | exact Rd.set0 (by assumption) [] | assumption) (dg4_bd _).1 (dg4_bd _).2 (monIx_bd _).1 (monIx_bd _).2 (by first | exact (dg2_bd _).1 | exact (dg1_bd _).1) (by first | exact (dg2_bd _).2 | exact (dg1_bd _).2) (ck_bd _).1 (ck_bd _).2 (by first | decide | exact (zn_bd _ _).1) (by first | decide | exact (zn_bd _ _).2)).mono ?_; rintro e w' ⟨he, hb⟩; unfold TdT at he; subst he))
  all_goals
    go_ret2
    refine ⟨?_, ?_⟩
    · simp only [beq_iff_eq, beq_eq_false_iff_ne] at *
      first
        | (rw [MailQ, if_pos (by simp only [mA4, mA3, mA2, mA1]; first | exact Or.inl (by assumption) | assumption)])
        | (rw [MailQ, if_neg (by simp only [mA4, mA3, mA2, mA1]; rintro (h | h) <;> simp_all)])
      simp [TdT, mBad, mA4, mA3, mA2, mA1, Bool.or_assoc]
      exact ⟨rfl, rfl⟩
    · refine Mo.bl_new (o := .cells #[.string ⟨(([] : List UInt8)).toArray⟩, .bool false] 37) (Mo.trans ?_ (Mo.of_bl hb))
      repeat (first | assumption | refine Mo.set ?_ _ _ | refine Mo.trans ?_ (by assumption))

theorem mail_c (l : List UInt8) (hl : l.length ≤ 9223372036854775807) (w : World) :
    Calls Tryd.prog 8 #[.string ⟨l.toArray⟩] w fun e w' => e = MailP l ∧ Bl w w' := by
  match l, hl with
  | [], hl => exact mail_1 [] hl rfl w
  | c :: t, hl =>
    have h0 : 0 < (c :: t).length := by simp
    cases hp : Ltr c.toNat
    · have hM : MailP (c :: t) = MailQ (c :: t) false (mMany (c :: t)) := by simp [MailP, hp]
      rw [hM]
      by_cases h1 : 1 < (c :: t).length
      · cases hc : ((((c :: t)[1]'h1).toNat : Int) != 32)
        · rw [mMany_1 _ h1 hc]; exact mail_2a (c :: t) hl h0 hp h1 hc w
        · rw [mMany_2 _ h1 hc]; exact mail_2b (c :: t) hl h0 hp h1 hc w
      · rw [mMany_0 _ (by omega)]; exact mail_2c (c :: t) hl h0 hp (by omega) w
    · have hM : MailP (c :: t) = MailQ (sgS (sgS (tkS (c :: t)) [44]) [32]) (!tkO (c :: t) || sgB (tkS (c :: t)) [44] || sgB (sgS (tkS (c :: t)) [44]) [32]) (mMany (sgS (sgS (tkS (c :: t)) [44]) [32])) := by simp [MailP, hp]
      rw [hM]
      by_cases h1 : 1 < (sgS (sgS (tkS (c :: t)) [44]) [32]).length
      · cases hc : ((((sgS (sgS (tkS (c :: t)) [44]) [32])[1]'h1).toNat : Int) != 32)
        · rw [mMany_1 _ h1 hc]; exact mail_3a (c :: t) hl h0 hp h1 hc w
        · rw [mMany_2 _ h1 hc]; exact mail_3b (c :: t) hl h0 hp h1 hc w
      · rw [mMany_0 _ (by omega)]; exact mail_3c (c :: t) hl h0 hp (by omega) w
end Go.Proofs.YtkmndlnhpegdgaaDoor

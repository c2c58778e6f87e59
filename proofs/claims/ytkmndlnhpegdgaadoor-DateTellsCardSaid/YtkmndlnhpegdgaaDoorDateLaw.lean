/- Plain laws on dates: what is printed is read as it was; a later time is a greater text. -/
import Derived.Test.YtkmndlnhpegdgaaDoorDateF
namespace Go.Proofs.YtkmndlnhpegdgaaDoor
open Go.RowKit

theorem sg_digit (v : Nat) (h : v ≤ 9) (r : List UInt8) : sgV (UInt8.ofNat (48 + v) :: r) dec = 48 + v ∧ sgS (UInt8.ofNat (48 + v) :: r) dec = r ∧ sgB (UInt8.ofNat (48 + v) :: r) dec = false := by
  have : v = 0 ∨ v = 1 ∨ v = 2 ∨ v = 3 ∨ v = 4 ∨ v = 5 ∨ v = 6 ∨ v = 7 ∨ v = 8 ∨ v = 9 := by omega
  rcases this with rfl | rfl | rfl | rfl | rfl | rfl | rfl | rfl | rfl | rfl <;> exact ⟨rfl, rfl, rfl⟩
theorem dd_digit (v : Nat) (h : v ≤ 9) (r : List UInt8) : dd (sgV (UInt8.ofNat (48 + v) :: r) dec) = v := by
  rw [(sg_digit v h r).1]; unfold dd; split <;> omega
theorem Dgs_nat (n k : Nat) : Dgs (n : Int) (k + 1) = Dgs ((n / 10 : Nat) : Int) k ++ [UInt8.ofNat (48 + n % 10)] := by
  rw [Dgs, show (n : Int) / 10 = ((n / 10 : Nat) : Int) by omega, show (48 + (n : Int) % 10).toNat = 48 + n % 10 by omega]
theorem dgs2 (n : Nat) : Dgs n 2 = [UInt8.ofNat (48 + n / 10 % 10), UInt8.ofNat (48 + n % 10)] := by
  rw [Dgs_nat, Dgs_nat]; rfl
theorem dgs4 (n : Nat) : Dgs n 4 = [UInt8.ofNat (48 + n / 10 / 10 / 10 % 10), UInt8.ofNat (48 + n / 10 / 10 % 10), UInt8.ofNat (48 + n / 10 % 10), UInt8.ofNat (48 + n % 10)] := by
  rw [Dgs_nat, Dgs_nat, Dgs_nat, Dgs_nat]; rfl
theorem rd2 (n : Nat) (h : n ≤ 99) (r : List UInt8) : dgN 2 0 (Dgs n 2 ++ r) = n ∧ dgS 2 (Dgs n 2 ++ r) = r ∧ dgB 2 (Dgs n 2 ++ r) = false := by
  rw [dgs2]
  have a := sg_digit (n / 10 % 10) (by omega) (UInt8.ofNat (48 + n % 10) :: r)
  have b := sg_digit (n % 10) (by omega) r
  have a' := dd_digit (n / 10 % 10) (by omega) (UInt8.ofNat (48 + n % 10) :: r)
  have b' := dd_digit (n % 10) (by omega) r
  simp only [List.cons_append, List.nil_append, dgN, dgS, dgB, a.2.1, a.2.2, b.2.1, b.2.2, a', b', Bool.or_false]
  refine ⟨by omega, trivial, trivial⟩
theorem rd4 (n : Nat) (h : n ≤ 9999) (r : List UInt8) : dgN 4 0 (Dgs n 4 ++ r) = n ∧ dgS 4 (Dgs n 4 ++ r) = r ∧ dgB 4 (Dgs n 4 ++ r) = false := by
  rw [dgs4]
  have a := sg_digit (n / 10 / 10 / 10 % 10) (by omega) (UInt8.ofNat (48 + n / 10 / 10 % 10) :: UInt8.ofNat (48 + n / 10 % 10) :: UInt8.ofNat (48 + n % 10) :: r)
  have b := sg_digit (n / 10 / 10 % 10) (by omega) (UInt8.ofNat (48 + n / 10 % 10) :: UInt8.ofNat (48 + n % 10) :: r)
  have c := sg_digit (n / 10 % 10) (by omega) (UInt8.ofNat (48 + n % 10) :: r)
  have d := sg_digit (n % 10) (by omega) r
  have a' := dd_digit (n / 10 / 10 / 10 % 10) (by omega) (UInt8.ofNat (48 + n / 10 / 10 % 10) :: UInt8.ofNat (48 + n / 10 % 10) :: UInt8.ofNat (48 + n % 10) :: r)
  have b' := dd_digit (n / 10 / 10 % 10) (by omega) (UInt8.ofNat (48 + n / 10 % 10) :: UInt8.ofNat (48 + n % 10) :: r)
  have c' := dd_digit (n / 10 % 10) (by omega) (UInt8.ofNat (48 + n % 10) :: r)
  have d' := dd_digit (n % 10) (by omega) r
  simp only [List.cons_append, List.nil_append, dgN, dgS, dgB, a.2.1, a.2.2, b.2.1, b.2.2, c.2.1, c.2.2, d.2.1, d.2.2, a', b', c', d', Bool.or_false]
  refine ⟨by omega, trivial, trivial⟩
theorem sg45 (r : List UInt8) : sgS (45 :: r) [45] = r ∧ sgB (45 :: r) [45] = false := ⟨rfl, rfl⟩
theorem sg84 (r : List UInt8) : sgS (84 :: r) [84] = r ∧ sgB (84 :: r) [84] = false := ⟨rfl, rfl⟩
theorem sg58 (r : List UInt8) : sgS (58 :: r) [58] = r ∧ sgB (58 :: r) [58] = false := ⟨rfl, rfl⟩
theorem sg32 (r : List UInt8) : sgS (32 :: r) [32] = r ∧ sgB (32 :: r) [32] = false := ⟨rfl, rfl⟩

/-- A clock is read as it was. -/
theorem rd_clock (h m s : Nat) (h1 : h ≤ 23) (h2 : m ≤ 59) (h3 : s ≤ 59) (r : List UInt8) :
    ckV (Dgs h 2 ++ 58 :: (Dgs m 2 ++ 58 :: (Dgs s 2 ++ r))) = 3600 * h + 60 * m + s ∧ ckS (Dgs h 2 ++ 58 :: (Dgs m 2 ++ 58 :: (Dgs s 2 ++ r))) = r ∧ ckB (Dgs h 2 ++ 58 :: (Dgs m 2 ++ 58 :: (Dgs s 2 ++ r))) = false := by
  have a := rd2 h (by omega) (58 :: (Dgs m 2 ++ 58 :: (Dgs s 2 ++ r)))
  have b := rd2 m (by omega) (58 :: (Dgs s 2 ++ r))
  have c := rd2 s (by omega) r
  simp only [ckV, ckS, ckB, a.1, a.2.1, a.2.2, b.1, b.2.1, b.2.2, c.1, c.2.1, c.2.2, (sg58 _).1, (sg58 _).2, Bool.or_false, Bool.false_or]
  refine ⟨trivial, trivial, ?_⟩
  simp; omega

/-- The head of a text up to its zone. -/
theorem rd_web (y m d h mi s : Nat) (h0 : y ≤ 9999) (h1 : m ≤ 99) (h2 : d ≤ 99) (h3 : h ≤ 23) (h4 : mi ≤ 59) (h5 : s ≤ 59) (r : List UInt8) (l : List UInt8)
    (hl : l = Dgs y 4 ++ 45 :: (Dgs m 2 ++ 45 :: (Dgs d 2 ++ 84 :: (Dgs h 2 ++ 58 :: (Dgs mi 2 ++ 58 :: (Dgs s 2 ++ r)))))) :
    dgN 4 0 l = y ∧ dgN 2 0 (wS1 l) = m ∧ dgN 2 0 (wS2 l) = d ∧ ckV (wS3 l) = 3600 * h + 60 * mi + s ∧ ckS (wS3 l) = r ∧ wB l = false := by
  have a := rd4 y h0 (45 :: (Dgs m 2 ++ 45 :: (Dgs d 2 ++ 84 :: (Dgs h 2 ++ 58 :: (Dgs mi 2 ++ 58 :: (Dgs s 2 ++ r))))))
  have b := rd2 m h1 (45 :: (Dgs d 2 ++ 84 :: (Dgs h 2 ++ 58 :: (Dgs mi 2 ++ 58 :: (Dgs s 2 ++ r)))))
  have c := rd2 d h2 (84 :: (Dgs h 2 ++ 58 :: (Dgs mi 2 ++ 58 :: (Dgs s 2 ++ r))))
  have e := rd_clock h mi s h3 h4 h5 r
  subst hl
  simp only [wB, wS3, wS2, wS1, a.1, a.2.1, a.2.2, b.1, b.2.1, b.2.2, c.1, c.2.1, c.2.2, (sg45 _).1, (sg45 _).2, (sg84 _).1, (sg84 _).2, e.1, e.2.1, e.2.2, Bool.or_false, Bool.false_or]
  refine ⟨trivial, trivial, trivial, trivial, trivial, ?_⟩
  simp; omega

structure Parts (d n : Int) where
  dn : Nat
  h : Nat
  mi : Nat
  s : Nat
  hd : d = dn
  h3 : h ≤ 23
  h4 : mi ≤ 59
  h5 : s ≤ 59
  hn : n = 3600 * h + 60 * mi + s
theorem DateG_parts (y m : Nat) (d n : Int) (p : Parts d n) : DateG y m (d + 1) n = Dgs y 4 ++ 45 :: (Dgs m 2 ++ 45 :: (Dgs ((p.dn + 1 : Nat) : Int) 2 ++ 84 :: (Dgs (p.h : Int) 2 ++ 58 :: (Dgs (p.mi : Int) 2 ++ 58 :: (Dgs (p.s : Int) 2 ++ [90]))))) := by
  have h1 := p.hd
  have h2 := p.hn
  have := p.h3; have := p.h4; have := p.h5
  rw [DateG, show n / 3600 = p.h by omega, show n % 3600 / 60 = p.mi by omega, show n % 60 = p.s by omega, show d + 1 = ((p.dn + 1 : Nat) : Int) by omega]
def mkParts (d n : Int) (h0 : 0 ≤ d) (h1 : 0 ≤ n) (h2 : n < 86400) : Parts d n :=
  ⟨d.toNat, (n / 3600).toNat, (n % 3600 / 60).toNat, (n % 60).toNat, by omega, by omega, by omega, by omega, by omega⟩

theorem IsDate.range {y m : Nat} {d n at' : Int} (hD : IsDate y m d n at') : 0 ≤ at' ∧ at' ≤ 4102444799 := by
  obtain ⟨hy, hy1, hm, hm1, hd, hd1, hn, hn1, hat⟩ := hD
  have e2 := MB_bd y m
  have e6 := MB_YL y m hm hm1
  have e5 : 0 ≤ D70 y ∧ D70 y + YL y ≤ 47482 := by
    refine ⟨?_, ?_⟩
    · by_cases h : y = 1970
      · subst h; rw [D70_0]; omega
      · have := D70_mono 1970 y (by omega); rw [D70_0] at this; have := YL_bd (1970 : Nat); omega
    · have := D70_mono y 2100 (by omega); rw [D70_2100] at this; exact this
  omega

theorem td_good {y m : Nat} {d n at' ck zn : Int} (hD : IsDate y m d n at') (h : 86400 * (D70 y + MB y m + d) + ck - zn = at') :
    TdT [] false y m (d + 1) ck zn = .returned (.tuple #[.int .i64 at', .int .i64 0]) := by
  have hr := hD.range
  obtain ⟨hy, hy1, hm, hm1, hd, hd1, hn, hn1, hat⟩ := hD
  have e3 := ML_bd y m
  have q1 : (y : Int).toNat = y := by omega
  have q2 : (m : Int).toNat = m := by omega
  rw [← td_ok (by omega) (by rw [q1, q2]; omega), q1, q2]
  rw [show 86400 * (D70 y + MB y m + (d + 1) - 1) + ck - zn = at' by omega]
theorem td_back {y m : Nat} {d n at' ck : Int} (hD : IsDate y m d n at') (hck : ck = n) :
    TdT [] false y m (d + 1) ck 0 = .returned (.tuple #[.int .i64 at', .int .i64 0]) := by
  have := hD.eq
  exact td_good hD (by omega)

/-- WHAT IS PRINTED IS READ AS IT WAS. -/
theorem web_back {y m : Nat} {d n at' : Int} (hD : IsDate y m d n at') : WebP (DateG y m (d + 1) n) = .returned (.tuple #[.int .i64 at', .int .i64 0]) := by
  have e3 := ML_bd y m
  have := hD.d1; have := hD.d0; have := hD.y1; have := hD.m1
  have p := mkParts d n hD.d0 hD.n0 hD.n1
  have h1 := p.hd
  obtain ⟨a, b, c, e, f, g⟩ := rd_web y m (p.dn + 1) p.h p.mi p.s (by omega) (by omega) (by omega) p.h3 p.h4 p.h5 [90] _ (DateG_parts y m d n p)
  rw [WebP, if_pos f, a, b, c, e, g]
  rw [show (((p.dn + 1 : Nat) : Nat) : Int) = d + 1 by omega]
  exact td_back hD p.hn.symm

/-- What may be told is a day's second. -/
theorem td_range_ok {s : List UInt8} {sh : Bool} {y m d ck zn v : Int} (h : TdT s sh y m d ck zn = .returned (.tuple #[.int .i64 v, .int .i64 0])) : 0 ≤ v ∧ v ≤ 4102444799 := by
  obtain ⟨h1, h2⟩ : TdV s sh y m d ck zn = v ∧ TdE s sh y m d ck zn = 0 := by simpa [TdT] using h
  unfold TdV at h1
  rw [if_pos h2] at h1
  unfold TdE at h2
  split at h2
  · omega
  · split at h2
    · omega
    · split at h2 <;> omega

/-- Places of a text, the first one that tells. -/
theorem less_app (a b : List UInt8) (h : a.length = b.length) (r q : List UInt8) : Op.bytesLess (a ++ r) (b ++ q) = (Op.bytesLess a b || (decide (a = b) && Op.bytesLess r q)) := by
  induction a generalizing b with
  | nil =>
    cases b with
    | nil => simp [Op.bytesLess]
    | cons c t => simp at h
  | cons c a ih =>
    cases b with
    | nil => simp at h
    | cons e b =>
      have := ih b (by simpa using h)
      simp only [List.cons_append, Op.bytesLess, this]
      by_cases h1 : c < e
      · simp [h1]
      · by_cases h2 : c = e
        · subst h2; simp [h1]
        · simp [h1, h2, show (c == e) = false by simp [h2]]
theorem Dgs_inj (k : Nat) (a b : Nat) (ha : a < 10 ^ k) (hb : b < 10 ^ k) : (Dgs a k = Dgs b k) ↔ a = b := by
  constructor
  · intro h
    induction k generalizing a b with
    | zero => simp at ha hb; omega
    | succ k ih =>
      rw [Dgs_nat, Dgs_nat] at h
      obtain ⟨h1, h2⟩ := List.append_inj' h (by simp)
      have := ih (a / 10) (b / 10) (by rw [Nat.pow_succ] at ha; omega) (by rw [Nat.pow_succ] at hb; omega) h1
      have h3 : UInt8.ofNat (48 + a % 10) = UInt8.ofNat (48 + b % 10) := by simpa using h2
      have h4 := congrArg UInt8.toNat h3
      simp [UInt8.toNat_ofNat'] at h4
      omega
  · intro h; rw [h]
theorem Dgs_less (k : Nat) (a b : Nat) (ha : a < 10 ^ k) (hb : b < 10 ^ k) : Op.bytesLess (Dgs a k) (Dgs b k) = decide (a < b) := by
  induction k generalizing a b with
  | zero => simp at ha hb; subst ha hb; simp [Dgs, Op.bytesLess]
  | succ k ih =>
    have ha' : a / 10 < 10 ^ k := by rw [Nat.pow_succ] at ha; omega
    have hb' : b / 10 < 10 ^ k := by rw [Nat.pow_succ] at hb; omega
    rw [Dgs_nat, Dgs_nat, less_app _ _ (by simp [Dgs_len]), ih (a / 10) (b / 10) ha' hb']
    have e1 : decide (Dgs ((a / 10 : Nat) : Int) k = Dgs ((b / 10 : Nat) : Int) k) = decide (a / 10 = b / 10) := by
      rw [Bool.eq_iff_iff, decide_eq_true_eq, decide_eq_true_eq]; exact Dgs_inj k _ _ ha' hb'
    have e2 : Op.bytesLess [UInt8.ofNat (48 + a % 10)] [UInt8.ofNat (48 + b % 10)] = decide (a % 10 < b % 10) := by
      simp only [Op.bytesLess, Bool.and_false, Bool.or_false]
      rw [Bool.eq_iff_iff, decide_eq_true_eq, decide_eq_true_eq, UInt8.lt_iff_toNat_lt]
      simp [UInt8.toNat_ofNat']
      omega
    rw [e1, e2, Bool.eq_iff_iff]
    simp
    omega
theorem less_dg (k : Nat) (a b : Nat) (ha : a < 10 ^ k) (hb : b < 10 ^ k) (c : UInt8) (r q : List UInt8) : Op.bytesLess (Dgs a k ++ c :: r) (Dgs b k ++ c :: q) = (decide (a < b) || (decide (a = b) && Op.bytesLess r q)) := by
  rw [less_app _ _ (by simp [Dgs_len]), Dgs_less k a b ha hb]
  have e1 : decide (Dgs (a : Int) k = Dgs (b : Int) k) = decide (a = b) := by
    rw [Bool.eq_iff_iff, decide_eq_true_eq, decide_eq_true_eq]; exact Dgs_inj k _ _ ha hb
  rw [e1]
  simp [Op.bytesLess]

/-- A LATER TIME IS A GREATER TEXT. -/
theorem DateG_less {y m y' m' : Nat} {d n at' d' n' at'' : Int} (hD : IsDate y m d n at') (hE : IsDate y' m' d' n' at'') :
    Op.bytesLess (DateG y m (d + 1) n) (DateG y' m' (d' + 1) n') = decide (at' < at'') := by
  have p := mkParts d n hD.d0 hD.n0 hD.n1
  have q := mkParts d' n' hE.d0 hE.n0 hE.n1
  have f3 := ML_bd y m
  have f4 := ML_bd y' m'
  have := p.hd; have := p.hn; have := p.h3; have := p.h4; have := p.h5
  have := q.hd; have := q.hn; have := q.h3; have := q.h4; have := q.h5
  obtain ⟨a1, a2, a3, a4, a5, a6, a7, a8, a9⟩ := hD
  obtain ⟨b1, b2, b3, b4, b5, b6, b7, b8, b9⟩ := hE
  rw [DateG_parts y m d n p, DateG_parts y' m' d' n' q]
  rw [less_dg 4 y y' (by omega) (by omega), less_dg 2 m m' (by omega) (by omega), less_dg 2 (p.dn + 1) (q.dn + 1) (by omega) (by omega), less_dg 2 p.h q.h (by omega) (by omega), less_dg 2 p.mi q.mi (by omega) (by omega), less_dg 2 p.s q.s (by omega) (by omega)]
  simp only [Op.bytesLess, Bool.and_false, Bool.or_false]
  rw [Bool.eq_iff_iff]
  simp only [Bool.or_eq_true, Bool.and_eq_true, decide_eq_true_eq]
  have g1 := MB_bd y m
  have g2 := MB_bd y' m'
  have g3 := MB_YL y m a3 a4
  have g4 := MB_YL y' m' b3 b4
  have c1 : y < y' → D70 y + YL y ≤ D70 y' := D70_mono y y'
  have c2 : y' < y → D70 y' + YL y' ≤ D70 y := D70_mono y' y
  have c3 : m < m' → MB y m + ML y m ≤ MB y m' := MB_mono y m m' a3
  have c4 : m' < m → MB y m' + ML y m' ≤ MB y m := MB_mono y m' m b3
  by_cases hy : y = y'
  · subst hy
    by_cases hm : m = m'
    · subst hm; omega
    · rcases Nat.lt_or_gt_of_ne hm with h | h
      · have := c3 h; omega
      · have := c4 h; omega
  · rcases Nat.lt_or_gt_of_ne hy with h | h
    · have := c1 h; omega
    · have := c2 h; omega
end Go.Proofs.YtkmndlnhpegdgaaDoor

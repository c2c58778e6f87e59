/- Plain laws on dates: zones; mail. -/
import Derived.Test.YtkmndlnhpegdgaaDoorDateLaw
namespace Go.Proofs.YtkmndlnhpegdgaaDoor
open Go.RowKit

theorem rd2' (n : Nat) (h : n ≤ 99) : dgN 2 0 (Dgs n 2) = n ∧ dgS 2 (Dgs n 2) = [] ∧ dgB 2 (Dgs n 2) = false := by
  have := rd2 n h []
  rwa [List.append_nil] at this
theorem rd_zone (h mi : Nat) (h1 : h ≤ 23) (h2 : mi ≤ 59) :
    znV (43 :: (Dgs h 2 ++ 58 :: Dgs mi 2)) [58] = 3600 * h + 60 * mi ∧ znS (43 :: (Dgs h 2 ++ 58 :: Dgs mi 2)) [58] = [] ∧ znB (43 :: (Dgs h 2 ++ 58 :: Dgs mi 2)) [58] = false := by
  have a := rd2 h (by omega) (58 :: Dgs mi 2)
  have b := rd2' mi (by omega)
  have s1 : sgV (43 :: (Dgs h 2 ++ 58 :: Dgs mi 2)) [43, 45] = 43 := rfl
  have s2 : sgS (43 :: (Dgs h 2 ++ 58 :: Dgs mi 2)) [43, 45] = Dgs h 2 ++ 58 :: Dgs mi 2 := rfl
  have s3 : sgB (43 :: (Dgs h 2 ++ 58 :: Dgs mi 2)) [43, 45] = false := rfl
  have hM : znM (43 :: (Dgs h 2 ++ 58 :: Dgs mi 2)) [58] = Dgs mi 2 := by
    unfold znM; rw [if_neg (by simp), s2, a.2.1]; rfl
  refine ⟨?_, ?_, ?_⟩
  · unfold znV znG ZV; rw [s1, if_neg (by omega), s2, hM, a.1, b.1]; omega
  · unfold znS; rw [hM, b.2.1]
  · unfold znB; rw [s2, s3, hM, a.1, a.2.1, a.2.2, b.1, b.2.2, if_neg (by simp)]; simp [(sg58 _).2]; omega

/-- A text up to its zone, and so much ahead of UTC. -/
theorem web_zone {y m : Nat} {d n at' : Int} (hD : IsDate y m d n at') (p : Parts d n) (h mi : Nat) (h1 : h ≤ 23) (h2 : mi ≤ 59) :
    WebP (Dgs y 4 ++ 45 :: (Dgs m 2 ++ 45 :: (Dgs ((p.dn + 1 : Nat) : Int) 2 ++ 84 :: (Dgs (p.h : Int) 2 ++ 58 :: (Dgs (p.mi : Int) 2 ++ 58 :: (Dgs (p.s : Int) 2 ++ 43 :: (Dgs h 2 ++ 58 :: Dgs mi 2))))))) =
      TdT [] false y m (d + 1) n (3600 * h + 60 * mi) := by
  have e3 := ML_bd y m
  have := hD.d1; have := hD.d0; have := hD.y1; have := hD.m1
  have hp := p.hd
  obtain ⟨a, b, c, e, f, g⟩ := rd_web y m (p.dn + 1) p.h p.mi p.s (by omega) (by omega) (by omega) p.h3 p.h4 p.h5 (43 :: (Dgs h 2 ++ 58 :: Dgs mi 2)) _ rfl
  obtain ⟨z1, z2, z3⟩ := rd_zone h mi h1 h2
  rw [WebP, if_neg (by rw [f]; simp), f, a, b, c, e, g, z1, z2, z3, show (((p.dn + 1 : Nat) : Nat) : Int) = d + 1 by omega, ← p.hn]
  rfl
theorem td_less {y m : Nat} {d n at' zn : Int} (hD : IsDate y m d n at') (h : 0 ≤ at' - zn) (h0 : 0 ≤ zn) :
    TdT [] false y m (d + 1) n zn = .returned (.tuple #[.int .i64 (at' - zn), .int .i64 0]) := by
  have hr := hD.range
  obtain ⟨hy, hy1, hm, hm1, hd, hd1, hn, hn1, hat⟩ := hD
  have e3 := ML_bd y m
  have q1 : (y : Int).toNat = y := by omega
  have q2 : (m : Int).toNat = m := by omega
  rw [← td_ok (by omega) (by rw [q1, q2]; omega), q1, q2]
  rw [show 86400 * (D70 y + MB y m + (d + 1) - 1) + n - zn = at' - zn by omega]
theorem td_neg {y m : Nat} {d n at' zn : Int} (hD : IsDate y m d n at') (h : at' - zn < 0) :
    TdT [] false y m (d + 1) n zn = .returned (.tuple #[.int .i64 0, .int .i64 3]) := by
  have hr := hD.range
  obtain ⟨hy, hy1, hm, hm1, hd, hd1, hn, hn1, hat⟩ := hD
  have e3 := ML_bd y m
  have q1 : (y : Int).toNat = y := by omega
  have q2 : (m : Int).toNat = m := by omega
  rw [← td_range (by omega) (by rw [q1, q2]; omega)]

def monL : Nat → List UInt8
  | 1 => [74, 97, 110] | 2 => [70, 101, 98] | 3 => [77, 97, 114] | 4 => [65, 112, 114] | 5 => [77, 97, 121] | 6 => [74, 117, 110]
  | 7 => [74, 117, 108] | 8 => [65, 117, 103] | 9 => [83, 101, 112] | 10 => [79, 99, 116] | 11 => [78, 111, 118] | 12 => [68, 101, 99]
  | _ => []
theorem tk3 (a b c : UInt8) (r : List UInt8) (ha : Ltr a.toNat = true) (hb : Ltr b.toNat = true) (hc : Ltr c.toNat = true) :
    tkO (a :: b :: c :: r) = true ∧ tkV (a :: b :: c :: r) = [a, b, c] ∧ tkS (a :: b :: c :: r) = r := by
  have h : tkO (a :: b :: c :: r) = true := by simp [tkO, ha, hb, hc]
  exact ⟨h, by simp [tkV, h], by simp [tkS, h]⟩
theorem monL_tk (m : Nat) (h1 : 1 ≤ m) (h2 : m ≤ 12) (r : List UInt8) : tkO (monL m ++ r) = true ∧ tkV (monL m ++ r) = monL m ∧ tkS (monL m ++ r) = r ∧ monIx (monL m) = m := by
  have : m = 1 ∨ m = 2 ∨ m = 3 ∨ m = 4 ∨ m = 5 ∨ m = 6 ∨ m = 7 ∨ m = 8 ∨ m = 9 ∨ m = 10 ∨ m = 11 ∨ m = 12 := by omega
  rcases this with rfl | rfl | rfl | rfl | rfl | rfl | rfl | rfl | rfl | rfl | rfl | rfl
  all_goals
    refine ⟨(tk3 _ _ _ r ?_ ?_ ?_).1, (tk3 _ _ _ r ?_ ?_ ?_).2.1, (tk3 _ _ _ r ?_ ?_ ?_).2.2, rfl⟩ <;> rfl

/-- A mail's text up to its zone. -/
theorem rd_mail (y m d h mi s : Nat) (h0 : y ≤ 9999) (h1 : 1 ≤ m) (h1' : m ≤ 12) (h2 : d ≤ 99) (h3 : h ≤ 23) (h4 : mi ≤ 59) (h5 : s ≤ 59) (r : List UInt8) (l : List UInt8)
    (hl : l = Dgs d 2 ++ 32 :: (monL m ++ 32 :: (Dgs y 4 ++ 32 :: (Dgs h 2 ++ 58 :: (Dgs mi 2 ++ 58 :: (Dgs s 2 ++ 32 :: r)))))) :
    dgN 2 0 l = d ∧ monIx (tkV (mA1 l 2)) = m ∧ dgN 4 0 (mA2 l 2) = y ∧ ckV (mA3 l 2) = 3600 * h + 60 * mi + s ∧ mA4 l 2 = r ∧ mBad l false 2 = false := by
  have a := rd2 d (by omega) (32 :: (monL m ++ 32 :: (Dgs y 4 ++ 32 :: (Dgs h 2 ++ 58 :: (Dgs mi 2 ++ 58 :: (Dgs s 2 ++ 32 :: r))))))
  have b := monL_tk m h1 h1' (32 :: (Dgs y 4 ++ 32 :: (Dgs h 2 ++ 58 :: (Dgs mi 2 ++ 58 :: (Dgs s 2 ++ 32 :: r)))))
  have c := rd4 y h0 (32 :: (Dgs h 2 ++ 58 :: (Dgs mi 2 ++ 58 :: (Dgs s 2 ++ 32 :: r))))
  have e := rd_clock h mi s h3 h4 h5 (32 :: r)
  subst hl
  simp only [mBad, mA4, mA3, mA2, mA1, a.1, a.2.1, a.2.2, b.1, b.2.1, b.2.2.1, b.2.2.2, c.1, c.2.1, c.2.2, (sg32 _).1, (sg32 _).2, e.1, e.2.1, e.2.2, Bool.or_false, Bool.false_or]
  refine ⟨trivial, trivial, trivial, trivial, trivial, ?_⟩
  simp; omega
theorem mailQ_gmt {y m : Nat} {d n at' : Int} (hD : IsDate y m d n at') (p : Parts d n) (l : List UInt8)
    (hl : l = Dgs ((p.dn + 1 : Nat) : Int) 2 ++ 32 :: (monL m ++ 32 :: (Dgs y 4 ++ 32 :: (Dgs (p.h : Int) 2 ++ 58 :: (Dgs (p.mi : Int) 2 ++ 58 :: (Dgs (p.s : Int) 2 ++ 32 :: [71, 77, 84])))))) :
    MailQ l false 2 = .returned (.tuple #[.int .i64 at', .int .i64 0]) := by
  have e3 := ML_bd y m
  have := hD.d1; have := hD.d0; have := hD.y1
  have hp := p.hd
  obtain ⟨a, b, c, e, f, g⟩ := rd_mail y m (p.dn + 1) p.h p.mi p.s (by omega) hD.m0 hD.m1 (by omega) p.h3 p.h4 p.h5 [71, 77, 84] l hl
  rw [MailQ, if_pos (Or.inl f), a, b, c, e, g, show (((p.dn + 1 : Nat) : Nat) : Int) = d + 1 by omega]
  exact td_back hD p.hn.symm
theorem mailQ_plus {y m : Nat} {d n at' : Int} (hD : IsDate y m d n at') (p : Parts d n) (l : List UInt8)
    (hl : l = Dgs ((p.dn + 1 : Nat) : Int) 2 ++ 32 :: (monL m ++ 32 :: (Dgs y 4 ++ 32 :: (Dgs (p.h : Int) 2 ++ 58 :: (Dgs (p.mi : Int) 2 ++ 58 :: (Dgs (p.s : Int) 2 ++ 32 :: [43, 48, 48, 48, 48])))))) :
    MailQ l false 2 = .returned (.tuple #[.int .i64 at', .int .i64 0]) := by
  have e3 := ML_bd y m
  have := hD.d1; have := hD.d0; have := hD.y1
  have hp := p.hd
  obtain ⟨a, b, c, e, f, g⟩ := rd_mail y m (p.dn + 1) p.h p.mi p.s (by omega) hD.m0 hD.m1 (by omega) p.h3 p.h4 p.h5 [43, 48, 48, 48, 48] l hl
  have z1 : znS [43, 48, 48, 48, 48] [] = [] := by kernel_rfl
  have z2 : znB [43, 48, 48, 48, 48] [] = false := by kernel_rfl
  have z3 : znV [43, 48, 48, 48, 48] [] = 0 := by kernel_rfl
  rw [MailQ, if_neg (by rw [f]; decide), f, a, b, c, e, g, z1, z2, z3, show (((p.dn + 1 : Nat) : Nat) : Int) = d + 1 by omega]
  exact td_back hD p.hn.symm
theorem web_minus {y m : Nat} {d n at' : Int} (hD : IsDate y m d n at') (p : Parts d n) (l : List UInt8)
    (hl : l = Dgs y 4 ++ 45 :: (Dgs m 2 ++ 45 :: (Dgs ((p.dn + 1 : Nat) : Int) 2 ++ 84 :: (Dgs (p.h : Int) 2 ++ 58 :: (Dgs (p.mi : Int) 2 ++ 58 :: (Dgs (p.s : Int) 2 ++ [45, 48, 48, 58, 48, 48])))))) :
    WebP l = .returned (.tuple #[.int .i64 at', .int .i64 0]) := by
  have e3 := ML_bd y m
  have := hD.d1; have := hD.d0; have := hD.y1; have := hD.m1
  have hp := p.hd
  obtain ⟨a, b, c, e, f, g⟩ := rd_web y m (p.dn + 1) p.h p.mi p.s (by omega) (by omega) (by omega) p.h3 p.h4 p.h5 [45, 48, 48, 58, 48, 48] l hl
  have z1 : znS [45, 48, 48, 58, 48, 48] [58] = [] := by kernel_rfl
  have z2 : znB [45, 48, 48, 58, 48, 48] [58] = false := by kernel_rfl
  have z3 : znV [45, 48, 48, 58, 48, 48] [58] = 0 := by kernel_rfl
  rw [WebP, if_neg (by rw [f]; decide), f, a, b, c, e, g, z1, z2, z3, show (((p.dn + 1 : Nat) : Nat) : Int) = d + 1 by omega]
  exact td_back hD p.hn.symm
end Go.Proofs.YtkmndlnhpegdgaaDoor

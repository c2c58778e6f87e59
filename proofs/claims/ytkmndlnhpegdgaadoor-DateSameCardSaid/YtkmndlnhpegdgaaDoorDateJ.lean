/- DateSame: the walk of the law. -/
import Derived.Test.YtkmndlnhpegdgaaDoorDateI
namespace Go.Proofs.YtkmndlnhpegdgaaDoor
open Go.RowKit

/-- A time that is printed, byte by byte; what its mails and its text with a zone tell. -/
structure Same (a : Int) (y0 y1 y2 y3 m0 m1 d0 d1 h0 h1 i0 i1 s0 s1 : UInt8) (m : Nat) : Prop where
  call : ∀ w, TI w → Calls Tryd.prog 9 #[.int .i64 a] w fun e w' => e = .returned (.tuple #[.string ⟨[y0, y1, y2, y3, 45, m0, m1, 45, d0, d1, 84, h0, h1, 58, i0, i1, 58, s0, s1, 90].toArray⟩, .int .i64 0]) ∧ Bl w w'
  lo : 1 ≤ m
  hi : m ≤ 12
  hm0 : m0 = UInt8.ofNat (48 + m / 10 % 10)
  hm1 : m1 = UInt8.ofNat (48 + m % 10)
  web : ∀ w, Calls Tryd.prog 7 #[.string ⟨[y0, y1, y2, y3, 45, m0, m1, 45, d0, d1, 84, h0, h1, 58, i0, i1, 58, s0, s1, 45, 48, 48, 58, 48, 48].toArray⟩] w fun e w' => e = .returned (.tuple #[.int .i64 a, .int .i64 0]) ∧ Bl w w'
  gmt : ∀ c0 c1 c2, monL m = [c0, c1, c2] → ∀ w, Calls Tryd.prog 8 #[.string ⟨[d0, d1, 32, c0, c1, c2, 32, y0, y1, y2, y3, 32, h0, h1, 58, i0, i1, 58, s0, s1, 32, 71, 77, 84].toArray⟩] w fun e w' => e = .returned (.tuple #[.int .i64 a, .int .i64 0]) ∧ Bl w w'
  xyz : ∀ c0 c1 c2, monL m = [c0, c1, c2] → ∀ w, Calls Tryd.prog 8 #[.string ⟨[88, 121, 122, 44, 32, d0, d1, 32, c0, c1, c2, 32, y0, y1, y2, y3, 32, h0, h1, 58, i0, i1, 58, s0, s1, 32, 43, 48, 48, 48, 48].toArray⟩] w fun e w' => e = .returned (.tuple #[.int .i64 a, .int .i64 0]) ∧ Bl w w'

theorem Ltr_digit (v : Nat) (h : v ≤ 9) : Ltr (UInt8.ofNat (48 + v)).toNat = false := by
  have : v = 0 ∨ v = 1 ∨ v = 2 ∨ v = 3 ∨ v = 4 ∨ v = 5 ∨ v = 6 ∨ v = 7 ∨ v = 8 ∨ v = 9 := by omega
  rcases this with rfl | rfl | rfl | rfl | rfl | rfl | rfl | rfl | rfl | rfl <;> rfl
theorem digit_32 (v : Nat) (h : v ≤ 9) : UInt8.ofNat (48 + v) ≠ 32 := by
  have : v = 0 ∨ v = 1 ∨ v = 2 ∨ v = 3 ∨ v = 4 ∨ v = 5 ∨ v = 6 ∨ v = 7 ∨ v = 8 ∨ v = 9 := by omega
  rcases this with rfl | rfl | rfl | rfl | rfl | rfl | rfl | rfl | rfl | rfl <;> decide
theorem MailP_plain (n : Nat) (r : List UInt8) : MailP (Dgs (n : Int) 2 ++ r) = MailQ (Dgs (n : Int) 2 ++ r) false 2 := by
  rw [dgs2]
  have h1 := Ltr_digit (n / 10 % 10) (by omega)
  have h2 := digit_32 (n % 10) (by omega)
  simp only [List.cons_append, List.nil_append, MailP, h1, mMany, if_neg h2]
  rfl
theorem MailP_xyz (n : Nat) (r : List UInt8) : MailP (88 :: 121 :: 122 :: 44 :: 32 :: (Dgs (n : Int) 2 ++ r)) = MailQ (Dgs (n : Int) 2 ++ r) false 2 := by
  have t := tk3 88 121 122 (44 :: 32 :: (Dgs (n : Int) 2 ++ r)) rfl rfl rfl
  have s1 : sgS (44 :: 32 :: (Dgs (n : Int) 2 ++ r)) [44] = 32 :: (Dgs (n : Int) 2 ++ r) := rfl
  have s2 : sgS (32 :: (Dgs (n : Int) 2 ++ r)) [32] = Dgs (n : Int) 2 ++ r := rfl
  have b1 : sgB (44 :: 32 :: (Dgs (n : Int) 2 ++ r)) [44] = false := rfl
  have b2 : sgB (32 :: (Dgs (n : Int) 2 ++ r)) [32] = false := rfl
  have hl : Ltr (88 : UInt8).toNat = true := rfl
  have hm : mMany (Dgs (n : Int) 2 ++ r) = 2 := by
    rw [dgs2]
    simp only [List.cons_append, List.nil_append, mMany, if_neg (digit_32 (n % 10) (by omega))]
  simp only [MailP, hl, if_true, t.1, t.2.2, s1, s2, b1, b2, hm, Bool.not_true, Bool.or_false]

theorem same_all (a : Int) (h : 0 ≤ a ∧ a ≤ 4102444799) : ∃ y0 y1 y2 y3 m0 m1 d0 d1 h0 h1 i0 i1 s0 s1 m, Same a y0 y1 y2 y3 m0 m1 d0 d1 h0 h1 i0 i1 s0 s1 m := by
  obtain ⟨y, m, d, n, hD⟩ := exists_date a h.1 h.2
  have p := mkParts d n hD.d0 hD.n0 hD.n1
  have hp := fun w hT => print_c y m d n a hD w hT
  rw [DateG_parts y m d n p] at hp
  have hW := web_minus hD p _ rfl
  have hG := mailQ_gmt hD p _ rfl
  have hX := mailQ_plus hD p _ rfl
  simp only [dgs4, dgs2] at hp
  refine ⟨_, _, _, _, _, _, _, _, _, _, _, _, _, _, m, fun w hT => hp w hT, hD.m0, hD.m1, rfl, rfl, fun w => ?_, fun c0 c1 c2 hc w => ?_, fun c0 c1 c2 hc w => ?_⟩
  · rw [← hW]
    have := web_c (Dgs y 4 ++ 45 :: (Dgs m 2 ++ 45 :: (Dgs ((p.dn + 1 : Nat) : Int) 2 ++ 84 :: (Dgs (p.h : Int) 2 ++ 58 :: (Dgs (p.mi : Int) 2 ++ 58 :: (Dgs (p.s : Int) 2 ++ [45, 48, 48, 58, 48, 48])))))) (by simp [Dgs_len]) w
    simp only [dgs4, dgs2] at this ⊢
    exact this
  · rw [← hG, ← MailP_plain (p.dn + 1)]
    have := mail_c (Dgs ((p.dn + 1 : Nat) : Int) 2 ++ 32 :: (monL m ++ 32 :: (Dgs y 4 ++ 32 :: (Dgs (p.h : Int) 2 ++ 58 :: (Dgs (p.mi : Int) 2 ++ 58 :: (Dgs (p.s : Int) 2 ++ 32 :: [71, 77, 84])))))) (by rw [hc]; simp [Dgs_len]) w
    rw [hc] at this ⊢
    simp only [dgs4, dgs2] at this ⊢
    exact this
  · rw [← hX, ← MailP_xyz (p.dn + 1)]
    have := mail_c (88 :: 121 :: 122 :: 44 :: 32 :: (Dgs ((p.dn + 1 : Nat) : Int) 2 ++ 32 :: (monL m ++ 32 :: (Dgs y 4 ++ 32 :: (Dgs (p.h : Int) 2 ++ 58 :: (Dgs (p.mi : Int) 2 ++ 58 :: (Dgs (p.s : Int) 2 ++ 32 :: [43, 48, 48, 48, 48]))))))) (by rw [hc]; simp [Dgs_len]) w
    rw [hc] at this ⊢
    simp only [dgs4, dgs2] at this ⊢
    exact this

set_option maxRecDepth 100000 in
set_option maxHeartbeats 8000000 in
theorem dateSame_c (a : Int) (w : World) (hT : TI w) :
    Calls Tryd.prog 6 #[.int .i64 a] w fun e w' => e = .returned (.bool true) ∧ Bl w w' := by
  by_cases hv : 0 ≤ a ∧ a ≤ 4102444799
  · obtain ⟨y0, y1, y2, y3, m0, m1, d0, d1, h0, h1, i0, i1, s0, s1, m, sm⟩ := same_all a hv
    have lo := sm.lo
    have hi := sm.hi
    have hm : m = 1 ∨ m = 2 ∨ m = 3 ∨ m = 4 ∨ m = 5 ∨ m = 6 ∨ m = 7 ∨ m = 8 ∨ m = 9 ∨ m = 10 ∨ m = 11 ∨ m = 12 := by omega
    rcases hm with rfl | rfl | rfl | rfl | rfl | rfl | rfl | rfl | rfl | rfl | rfl | rfl
    all_goals
      have e0 := sm.hm0
      have e1 := sm.hm1
      have g := sm.gmt _ _ _ rfl
      have x := sm.xyz _ _ _ rfl
      have pc := sm.call
      have wb := sm.web
      simp at e0 e1
      subst e0 e1
      have PA := Lib.hid pc
      have WB := Lib.hid wb
      have MG := Lib.hid g
      have MX := Lib.hid x
      clear sm lo hi pc wb g x
      go_enter Tryd.func6, Tryd.ntmps6
      go_wp2_with (first | (go_at_call 13; refine (begun_c _ (by assumption)).mono ?_; rintro e w' ⟨rfl, hb'⟩; have ht := TI.of_bl (by assumption) hb') | (go_at_call 9; (with_reducible refine (PA.out _ (by assumption)).mono ?_); rintro e w' ⟨rfl, hb'⟩; have ht := TI.of_bl (by assumption) hb') | (go_at_call 7; (with_reducible refine (WB.out _).mono ?_); rintro e w' ⟨rfl, hb'⟩) | (go_at_call 8; (with_reducible first | refine (MG.out _).mono ?_ | refine (MX.out _).mono ?_); rintro e w' ⟨rfl, hb'⟩) | go_quiet (fail))
      go_ret
      exact ⟨rfl, by repeat (first | exact Bl.refl _ | assumption | refine Bl.alloc ?_ _ | refine Bl.drew ?_ | refine Bl.drewN ?_ _ | refine Bl.trans ?_ (by assumption))⟩
  · obtain ⟨xa, ta, pa⟩ := print_all a
    have PA := Lib.hid pa.call
    obtain rfl := pa.three hv
    obtain rfl : ta = [] := by rcases pa.ans with ⟨h, _⟩ | ⟨_, _, h⟩; (exact absurd h hv); exact h
    clear pa
    go_enter Tryd.func6, Tryd.ntmps6
    go_wp2_with (first | (go_at_call 13; refine (begun_c _ (by assumption)).mono ?_; rintro e w' ⟨rfl, hb'⟩; have ht := TI.of_bl (by assumption) hb') | (go_at_call 9; (with_reducible refine (PA.out _ (by assumption)).mono ?_); rintro e w' ⟨rfl, hb'⟩; have ht := TI.of_bl (by assumption) hb'))
    go_ret
    exact ⟨rfl, by repeat (first | exact Bl.refl _ | assumption | refine Bl.trans ?_ (by assumption))⟩
end Go.Proofs.YtkmndlnhpegdgaaDoor

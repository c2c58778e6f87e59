/- DateBack: the walk of the law. -/
import Derived.Test.YtkmndlnhpegdgaaDoorDateG
namespace Go.Proofs.YtkmndlnhpegdgaaDoor
open Go.RowKit

theorem td_ans (s : List UInt8) (sh : Bool) (y m d ck zn : Int) : ∃ v x : Int, TdT s sh y m d ck zn = .returned (.tuple #[.int .i64 v, .int .i64 x]) ∧ (x = 0 ∨ x ≠ 0 ∧ v = 0) ∧ (x = 0 → 0 ≤ v ∧ v ≤ 4102444799) := by
  refine ⟨TdV s sh y m d ck zn, TdE s sh y m d ck zn, rfl, ?_, fun h => td_range_ok (s := s) (sh := sh) (y := y) (m := m) (d := d) (ck := ck) (zn := zn) (by rw [TdT, h])⟩
  by_cases h : TdE s sh y m d ck zn = 0
  · exact Or.inl h
  · exact Or.inr ⟨h, by unfold TdV; rw [if_neg h]⟩
theorem web_ans (l : List UInt8) : ∃ v x : Int, WebP l = .returned (.tuple #[.int .i64 v, .int .i64 x]) ∧ (x = 0 ∨ x ≠ 0 ∧ v = 0) ∧ (x = 0 → 0 ≤ v ∧ v ≤ 4102444799) := by
  unfold WebP; split <;> exact td_ans _ _ _ _ _ _ _
theorem mailq_ans (l : List UInt8) (sh : Bool) (k : Nat) : ∃ v x : Int, MailQ l sh k = .returned (.tuple #[.int .i64 v, .int .i64 x]) ∧ (x = 0 ∨ x ≠ 0 ∧ v = 0) ∧ (x = 0 → 0 ≤ v ∧ v ≤ 4102444799) := by
  unfold MailQ; split <;> exact td_ans _ _ _ _ _ _ _
theorem mail_ans (l : List UInt8) : ∃ v x : Int, MailP l = .returned (.tuple #[.int .i64 v, .int .i64 x]) ∧ (x = 0 ∨ x ≠ 0 ∧ v = 0) ∧ (x = 0 → 0 ≤ v ∧ v ≤ 4102444799) := by
  unfold MailP
  split
  · exact mailq_ans _ _ _
  · split <;> exact mailq_ans _ _ _

/-- Print, whatever it is handed. -/
structure PrIs (z x : Int) (t : List UInt8) : Prop where
  call : ∀ w, TI w → Calls Tryd.prog 9 #[.int .i64 z] w fun e w' => e = .returned (.tuple #[.string ⟨t.toArray⟩, .int .i64 x]) ∧ Bl w w'
  len : t.length ≤ 20
  ans : (0 ≤ z ∧ z ≤ 4102444799) ∧ x = 0 ∧ (∃ (y m : Nat) (d n : Int), IsDate y m d n z ∧ t = DateG y m (d + 1) n) ∨ (z < 0 ∨ 4102444799 < z) ∧ x = 3 ∧ t = []
theorem print_all (z : Int) : ∃ (x : Int) (t : List UInt8), PrIs z x t := by
  by_cases h : 0 ≤ z ∧ z ≤ 4102444799
  · obtain ⟨y, m, d, n, hD⟩ := exists_date z h.1 h.2
    exact ⟨0, DateG y m (d + 1) n, fun w hT => print_c y m d n z hD w hT, by simp [DateG, Dgs_len], Or.inl ⟨h, rfl, y, m, d, n, hD, rfl⟩⟩
  · have h' : z < 0 ∨ 4102444799 < z := by omega
    exact ⟨3, [], fun w _ => (print_bad z h' w).mono fun e w' ⟨he, hw⟩ => ⟨he, hw ▸ Bl.refl _⟩, by simp, Or.inr ⟨h', rfl, rfl⟩⟩
theorem PrIs.web {z x : Int} {t : List UInt8} (h : PrIs z x t) (hv : 0 ≤ z ∧ z ≤ 4102444799) (w : World) :
    Calls Tryd.prog 7 #[.string ⟨t.toArray⟩] w fun e w' => e = .returned (.tuple #[.int .i64 z, .int .i64 0]) ∧ Bl w w' := by
  have hw : WebP t = .returned (.tuple #[.int .i64 z, .int .i64 0]) := by
    rcases h.ans with ⟨_, _, y, m, d, n, hD, ht⟩ | ⟨hb, _⟩
    · rw [ht]; exact web_back hD
    · omega
  rw [← hw]
  exact web_c _ (by have := h.len; omega) w
theorem PrIs.zero {z x : Int} {t : List UInt8} (h : PrIs z x t) (hv : 0 ≤ z ∧ z ≤ 4102444799) : x = 0 := by
  rcases h.ans with ⟨_, h, _⟩ | ⟨hb, _⟩
  · exact h
  · omega
theorem PrIs.three {z x : Int} {t : List UInt8} (h : PrIs z x t) (hv : ¬ (0 ≤ z ∧ z ≤ 4102444799)) : x = 3 := by
  rcases h.ans with ⟨h, _⟩ | ⟨_, h, _⟩
  · omega
  · exact h
theorem PrIs.less {a x b y : Int} {t u : List UInt8} (h : PrIs a x t) (k : PrIs b y u) (ha : 0 ≤ a ∧ a ≤ 4102444799) (hb : 0 ≤ b ∧ b ≤ 4102444799) : Op.bytesLess t u = decide (a < b) := by
  rcases h.ans with ⟨_, _, y1, m1, d1, n1, hD, ht⟩ | ⟨hb, _⟩
  · rcases k.ans with ⟨_, _, y2, m2, d2, n2, hE, hu⟩ | ⟨hb, _⟩
    · rw [ht, hu]; exact DateG_less hD hE
    · omega
  · omega

set_option maxRecDepth 100000 in
set_option maxHeartbeats 8000000 in
theorem dateBack_c (l : List UInt8) (hl : l.length ≤ 9223372036854775807) (a b : Int) (w : World) (hT : TI w) :
    Calls Tryd.prog 4 #[.string ⟨l.toArray⟩, .int .i64 a, .int .i64 b] w fun e w' => e = .returned (.bool true) ∧ Bl w w' := by
  obtain ⟨v1, x1, q1, r1, s1⟩ := web_ans l
  obtain ⟨v2, x2, q2, r2, s2⟩ := mail_ans l
  obtain ⟨xa, ta, pa⟩ := print_all a
  obtain ⟨xb, tb, pb⟩ := print_all b
  obtain ⟨y1, t1, p1⟩ := print_all v1
  obtain ⟨y2, t2, p2⟩ := print_all v2
  have Wl := fun W => web_c l hl W
  have Ml := fun W => mail_c l hl W
  rw [q1] at Wl
  rw [q2] at Ml
  have WL := Lib.hid Wl
  have ML' := Lib.hid Ml
  have PA := Lib.hid pa.call
  have PB := Lib.hid pb.call
  have P1 := Lib.hid p1.call
  have P2 := Lib.hid p2.call
  have WA := Lib.hid pa.web
  have W1 := Lib.hid p1.web
  have W2 := Lib.hid p2.web
  clear Wl Ml q1 q2
  have c1 : (0 ≤ a ∧ a ≤ 4102444799) ∧ xa = 0 ∧ ((0 ≤ b ∧ b ≤ 4102444799) ∧ xb = 0 ∧ Op.bytesLess ta tb = decide (a < b) ∨ xb = 3) ∨ xa = 3 := by
    by_cases ha : 0 ≤ a ∧ a ≤ 4102444799
    · left
      refine ⟨ha, pa.zero ha, ?_⟩
      by_cases hb : 0 ≤ b ∧ b ≤ 4102444799
      · exact Or.inl ⟨hb, pb.zero hb, pa.less pb ha hb⟩
      · exact Or.inr (pb.three hb)
    · exact Or.inr (pa.three ha)
  have c2 : (0 ≤ v1 ∧ v1 ≤ 4102444799) ∧ x1 = 0 ∧ y1 = 0 ∨ (x1 == 0) = false ∧ (x1 != 0) = true := by
    by_cases h : x1 = 0
    · exact Or.inl ⟨s1 h, h, p1.zero (s1 h)⟩
    · exact Or.inr ⟨by simpa using h, by simpa using h⟩
  have c3 : (0 ≤ v2 ∧ v2 ≤ 4102444799) ∧ x2 = 0 ∧ y2 = 0 ∨ (x2 == 0) = false ∧ (x2 != 0) = true := by
    by_cases h : x2 = 0
    · exact Or.inl ⟨s2 h, h, p2.zero (s2 h)⟩
    · exact Or.inr ⟨by simpa using h, by simpa using h⟩
  clear r1 s1 r2 s2 pa pb p1 p2
  rcases c1 with ⟨ha, rfl, ⟨hb, rfl, hless⟩ | rfl⟩ | rfl
  all_goals rcases c2 with ⟨hv1, rfl, rfl⟩ | ⟨d1, d2⟩
  all_goals rcases c3 with ⟨hv2, rfl, rfl⟩ | ⟨d3, d4⟩
  all_goals
    go_enter Tryd.func4, Tryd.ntmps4
    go_wp2_with (first | (go_at_call 13; refine (begun_c _ (by assumption)).mono ?_; rintro e w' ⟨rfl, hb'⟩; have ht := TI.of_bl (by assumption) hb') | (go_at_call 9; (with_reducible first | refine (PA.out _ (by assumption)).mono ?_ | refine (PB.out _ (by assumption)).mono ?_ | refine (P1.out _ (by assumption)).mono ?_ | refine (P2.out _ (by assumption)).mono ?_); rintro e w' ⟨rfl, hb'⟩; have ht := TI.of_bl (by assumption) hb') | (go_at_call 7; (with_reducible first | refine (WL.out _).mono ?_ | refine (WA.out (by assumption) _).mono ?_ | refine (W1.out (by assumption) _).mono ?_ | refine (W2.out (by assumption) _).mono ?_); rintro e w' ⟨rfl, hb'⟩; have ht := TI.of_bl (by assumption) hb') | (go_at_call 8; refine (ML'.out _).mono ?_; rintro e w' ⟨rfl, hb'⟩; have ht := TI.of_bl (by assumption) hb'))
    refine wp_loop_rounds 3 ?_
    repeat (rw [rounds_succ]; go_wp2_with (first | (go_at_call 13; refine (begun_c _ (by assumption)).mono ?_; rintro e w' ⟨rfl, hb'⟩; have ht := TI.of_bl (by assumption) hb') | (go_at_call 9; (with_reducible first | refine (PA.out _ (by assumption)).mono ?_ | refine (PB.out _ (by assumption)).mono ?_ | refine (P1.out _ (by assumption)).mono ?_ | refine (P2.out _ (by assumption)).mono ?_); rintro e w' ⟨rfl, hb'⟩; have ht := TI.of_bl (by assumption) hb') | (go_at_call 7; (with_reducible first | refine (WL.out _).mono ?_ | refine (WA.out (by assumption) _).mono ?_ | refine (W1.out (by assumption) _).mono ?_ | refine (W2.out (by assumption) _).mono ?_); rintro e w' ⟨rfl, hb'⟩; have ht := TI.of_bl (by assumption) hb') | (go_at_call 8; refine (ML'.out _).mono ?_; rintro e w' ⟨rfl, hb'⟩; have ht := TI.of_bl (by assumption) hb')))
    go_ret
    exact ⟨rfl, by repeat (first | exact Bl.refl _ | assumption | refine Bl.trans ?_ (by assumption))⟩
end Go.Proofs.YtkmndlnhpegdgaaDoor

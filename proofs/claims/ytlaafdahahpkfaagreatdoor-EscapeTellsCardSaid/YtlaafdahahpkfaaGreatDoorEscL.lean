/- EscapeBack, EscapeParts: the walks of the laws. -/
import Derived.Test.YtlaafdahahpkfaaGreatDoorEscK
import Derived.Test.YtlaafdahahpkfaaGreatDoorEscQ
namespace Go.Proofs.YtlaafdahahpkfaaGreatDoor
open Go.RowKit

set_option maxRecDepth 100000 in
set_option maxHeartbeats 4000000 in
theorem escapeBack_c (l : List UInt8) (w : World) (hE : ES w) :
    Calls Tryz.prog 4 #[.string ⟨l.toArray⟩] w fun e w' => e = .returned (.bool true) ∧ Bl w w' := by
  have p1 := fun W => Put_c l W
  by_cases h : 3000 < l.length
  · rw [show tooL l = 2 by unfold tooL; rw [if_pos h], show short l (PutL l) = [] by unfold short; rw [if_pos h]] at p1
    have P1 := Lib.hid p1
    clear p1 h
    go_enter Tryz.func4, Tryz.ntmps4
    go_wp2_with (first | (go_at_call 6; (with_reducible refine (P1.out _).mono ?_); rintro e w1 ⟨rfl, hb1⟩; have h1 := hE.of_bl hb1) | (go_at_call 12; (with_reducible refine (begun_c _ h1).mono ?_); rintro e w2 ⟨rfl, hb2⟩))
    go_ret
    exact ⟨rfl, hb1.trans hb2⟩
  rw [show tooL l = 0 by unfold tooL; rw [if_neg h], show short l (PutL l) = PutL l by unfold short; rw [if_neg h]] at p1
  have hno := PutL_no l
  have p2 := fun W hW => Take_c (PutL l) W hW
  have p3 := fun W hW => Strict_c (PutL l) W hW
  obtain ⟨P, hP⟩ : ∃ P, P = PutL l := ⟨_, rfl⟩
  have hT : Tk P = (l, true) := by rw [hP]; exact Tk_put l
  rw [← hP] at p1 p2 p3 hno
  have P1 := Lib.hid p1
  clear p1 h hP
  by_cases h2 : 3000 < P.length
  · have h2' : (3000 : Int) < P.length := by omega
    go_enter Tryz.func4, Tryz.ntmps4
    clear hT p2 p3
    go_wp2_with (first | (go_at_call 6; (with_reducible refine (P1.out _).mono ?_); rintro e w1 ⟨rfl, hb1⟩; have h1 := hE.of_bl hb1) | (go_at_call 12; (with_reducible refine (begun_c _ h1).mono ?_); rintro e w2 ⟨rfl, hb2⟩))
    go_ret
    exact ⟨rfl, hb1.trans hb2⟩
  have h2' : ¬ (3000 : Int) < P.length := by omega
  rw [show tooL P = 0 by unfold tooL; rw [if_neg h2], show short P (Tk P).1 = l by unfold short; rw [if_neg h2, hT]] at p2
  rw [show strE P = 0 by unfold strE; rw [if_neg h2, hT]; rfl, show strT P = l by unfold strT; rw [if_neg h2, hT]; rfl] at p3
  have P2 := Lib.hid p2
  have P3 := Lib.hid p3
  have HNO := Lib.hid hno
  clear p2 p3 hT hno h2
  go_enter Tryz.func4, Tryz.ntmps4
  go_wp2_with (first | (go_at_call 6; (with_reducible refine (P1.out _).mono ?_); rintro e w1 ⟨rfl, hb1⟩; have h1 := hE.of_bl hb1) | (go_at_call 12; (with_reducible refine (begun_c _ h1).mono ?_); rintro e w2 ⟨rfl, hb2⟩; have h3 := h1.of_bl hb2) | (go_at_call 7; (with_reducible refine (P2.out _ h3).mono ?_); rintro e w3 ⟨rfl, hb3⟩; have h4 := h3.of_bl hb3) | (go_at_call 8; (with_reducible refine (P3.out _ h4).mono ?_); rintro e w4 ⟨rfl, hb4⟩))
  go_loop [8] (fun i => ∃ k : Nat, k ≤ P.length ∧ i = .int .i64 k) (fun i => P.length - (intOf i).toNat)
  case atStart => exact ⟨0, Nat.zero_le _, rfl⟩
  case round =>
    obtain ⟨k, hk, rfl⟩ := hrel
    by_cases hlt : k < P.length
    · obtain ⟨n1, n2, n3⟩ := HNO.out P[k] (List.getElem_mem _)
      have m (x : UInt8) (hx : P[k] ≠ x) : ((P[k].toNat : Int) == (x.toNat : Int)) = false := beq_false_of_ne (fun e => hx (UInt8.toNat_inj.1 (by omega)))
      have m1 : ((P[k].toNat : Int) == 60) = false := m 60 n1
      have m2 : ((P[k].toNat : Int) == 62) = false := m 62 n2
      have m3 : ((P[k].toNat : Int) == 34) = false := m 34 n3
      clear m n1 n2 n3
      go_wp2
      go_round
      case rel => exact ⟨k + 1, by omega, by go_num⟩
      case measure => simp [intOf]; omega
    · go_wp2
      go_ret
      exact ⟨ret_bool (by simp), hb1.trans (hb2.trans (hb3.trans hb4))⟩

set_option maxRecDepth 100000 in
set_option maxHeartbeats 4000000 in
theorem escapeParts_c (s t : List UInt8) (hs : s.length ≤ 281474976710656) (ht : t.length ≤ 281474976710656) (w : World) (hE : ES w) :
    Calls Tryz.prog 5 #[.string ⟨s.toArray⟩, .string ⟨t.toArray⟩] w fun e w' => e = .returned (.bool true) ∧ Bl w w' := by
  by_cases h : 3000 < s.length + t.length
  · have h' : (3000 : Int) < (s.length : Int) + (t.length : Int) := by omega
    go_enter Tryz.func5, Tryz.ntmps5
    go_wp2_with (go_at_call 12; (with_reducible refine (begun_c _ hE).mono ?_); rintro e w2 ⟨rfl, hb2⟩)
    go_ret
    exact ⟨rfl, hb2⟩
  have h' : ¬ (3000 : Int) < (s.length : Int) + (t.length : Int) := by omega
  have p1 := fun W => Put_c s W
  have p2 := fun W => Put_c t W
  have p3 := fun W => Put_c (s ++ t) W
  have p4 := fun W hW => Take_c s W hW
  rw [show tooL s = 0 by unfold tooL; rw [if_neg (by omega)], show short s (PutL s) = PutL s by unfold short; rw [if_neg (by omega)]] at p1
  rw [show tooL t = 0 by unfold tooL; rw [if_neg (by omega)], show short t (PutL t) = PutL t by unfold short; rw [if_neg (by omega)]] at p2
  rw [show tooL (s ++ t) = 0 by unfold tooL; rw [if_neg (by simp; omega)], show short (s ++ t) (PutL (s ++ t)) = PutL s ++ PutL t by unfold short; rw [if_neg (by simp; omega)]; simp [PutL]] at p3
  rw [show tooL s = 0 by unfold tooL; rw [if_neg (by omega)], show short s (Tk s).1 = (Tk s).1 by unfold short; rw [if_neg (by omega)]] at p4
  have P1 := Lib.hid p1
  have P2 := Lib.hid p2
  have P3 := Lib.hid p3
  have P4 := Lib.hid p4
  obtain ⟨d0, hd0⟩ : ∃ d0, d0 = (Tk s).1 := ⟨_, rfl⟩
  rw [← hd0] at P4
  have HD := Lib.hid hd0
  clear p1 p2 p3 p4 h hd0
  go_enter Tryz.func5, Tryz.ntmps5
  go_wp2_with (first | (go_at_call 12; (with_reducible refine (begun_c _ hE).mono ?_); rintro e w1 ⟨rfl, hb1⟩; have h1 := hE.of_bl hb1) | (go_at_call 6; (with_reducible refine (P1.out _).mono ?_); clear P1; rintro e w2 ⟨rfl, hb2⟩; have h2 := h1.of_bl hb2) | (go_at_call 6; (with_reducible refine (P2.out _).mono ?_); clear P2; rintro e w3 ⟨rfl, hb3⟩; have h3 := h2.of_bl hb3) | (go_at_call 6; refine (P3.out _).mono ?_; clear P3; rintro e w4 ⟨rfl, hb4⟩; have h4 := h3.of_bl hb4) | (go_at_call 7; (with_reducible refine (P4.out _ h4).mono ?_); rintro e w5 ⟨rfl, hb5⟩))
  go_loop [11, 13] (fun d i => ∃ (k : Nat) (x : List UInt8), k ≤ s.length ∧ i = .int .i64 k ∧ d = .string ⟨x.toArray⟩ ∧ Hid (x = s ∨ (x = d0 ∧ 38 ∉ s.take k))) (fun _ i => s.length - (intOf i).toNat)
  case atStart => exact ⟨0, d0, Nat.zero_le _, rfl, rfl, Lib.hid (Or.inr ⟨rfl, by simp⟩)⟩
  case round =>
    obtain ⟨k, x, hk, rfl, rfl, HX⟩ := hrel
    by_cases hlt : k < s.length
    · have HT := Lib.hid (take_snoc s k hlt)
      go_wp2
      all_goals
        go_round
        case rel =>
          first
            | exact ⟨k + 1, s, by omega, by go_num, rfl, Lib.hid (Or.inl rfl)⟩
            | exact ⟨k + 1, x, by omega, by go_num, rfl, Lib.hid (HX.out.elim Or.inl (fun h => Or.inr ⟨h.1, by
                rw [HT.out, List.mem_append, not_or]
                refine ⟨h.2, ?_⟩
                rw [List.mem_singleton]
                intro e
                have hne : ((s[k].toNat : Int) == 38) = false := by assumption
                rw [← e] at hne
                exact absurd hne (by decide)⟩))⟩
        case measure => simp [intOf]; omega
    · have hx : x = s := by
        rcases HX.out with h | ⟨h1, h2⟩
        · exact h
        · rw [List.take_of_length_le (by omega)] at h2
          rw [h1, HD.out, Tk_none s h2]
      rw [hx]
      clear HX HD hx
      have a1 := PutL_len s
      have a2 := PutL_len t
      have a3 : (PutL s).length + (PutL t).length ≤ 18000 := by omega
      go_wp2
      go_ret
      exact ⟨ret_bool (by simp), hb1.trans (hb2.trans (hb3.trans (hb4.trans hb5)))⟩
end Go.Proofs.YtlaafdahahpkfaaGreatDoor

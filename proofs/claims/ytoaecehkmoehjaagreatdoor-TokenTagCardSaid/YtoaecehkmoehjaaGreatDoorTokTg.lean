/- Tokens: the law TokenTag. -/
import Derived.Test.YtoaecehkmoehjaaGreatDoorTokPl
namespace Go.Proofs.YtoaecehkmoehjaaGreatDoor
open Go.RowKit

theorem tagL_small (v : List UInt8) : (tagL v).length ≤ 1099511627776 ∧ ∀ t ∈ tagL v, t.2.2.1.length ≤ 1099511627776 := by
  unfold tagL; simp
theorem Bl.two (W : World) (o p : Obj) : Bl W ((W.alloc o).alloc p) := ((Bl.refl W).alloc _).alloc _
/-- The tag as the law builds it. -/
theorem TkS_tag (W : World) (v : List UInt8) : TkS ((W.alloc (.cells #[.string ⟨#[107]⟩, .string ⟨v.toArray⟩, .string ⟨#[98]⟩, .string ⟨#[]⟩] 41)).alloc (.cells #[.int .i64 2, .string ⟨#[120]⟩, .slice (some ⟨W.heap.size, 0, none⟩) 2 2, .string ⟨#[]⟩] 37)) (.slice (some ⟨W.heap.size + 1, 0, none⟩) 1 1) (tagL v) := by
  refine ⟨some ⟨W.heap.size + 1, 0, none⟩, 1, rfl, ?_⟩
  intro i hi
  rcases (show i = 0 by simp [tagL] at hi; omega) with rfl
  refine ⟨W.heap.size + 1, 0, .slice (some ⟨W.heap.size, 0, none⟩) 2 2, rfl, by simp, by simp [tagL], by simp [tagL], by simp [tagL], by simp [tagL], ⟨some ⟨W.heap.size, 0, none⟩, 2, rfl, ?_⟩, ⟨_, _, _, rfl, Nat.le_refl _⟩⟩
  intro j hj
  rcases (show j = 0 ∨ j = 1 by simp [tagL] at hj; omega) with rfl | rfl
  · exact ⟨W.heap.size, 0, rfl, by simp; omega, by simp [tagL], by simp [tagL]⟩
  · exact ⟨W.heap.size, 0, rfl, by simp; omega, by simp [tagL], by simp [tagL]⟩
set_option maxRecDepth 100000 in
set_option maxHeartbeats 4000000 in
theorem tokenTag_c (s : List UInt8) (w : World) (hE : ES w) (hM : ML w) :
    Calls Tryz.prog 6 #[.string ⟨s.toArray⟩] w fun e w' => e = .returned (.bool true) ∧ Bl w w' := by
  have p1 := fun W => Put_c s W
  by_cases h : 3000 < s.length
  · rw [show tooL s = 2 by unfold tooL; rw [if_pos h], show short s (PutL s) = [] by unfold short; rw [if_pos h]] at p1
    have P1 := Lib.hid p1
    clear p1 h
    go_enter Tryz.func6, Tryz.ntmps6
    go_wp2_with (first | (go_at_call 13; (with_reducible refine (tokenBegun_c _ hE hM).mono ?_); rintro e w1 ⟨rfl, hb1⟩; have h1 := hE.of_bl hb1; have m1 := hM.of_bl hb1) | (go_at_call 16; (with_reducible refine (begun_c _ h1).mono ?_); rintro e w2 ⟨rfl, hb2⟩; have h2 := h1.of_bl hb2; have m2 := m1.of_bl hb2) | (go_at_call 17; (with_reducible refine (P1.out _).mono ?_); rintro e w3 ⟨rfl, hb3⟩))
    go_ret
    exact ⟨rfl, hb1.trans (hb2.trans hb3)⟩
  · rw [show tooL s = 0 by unfold tooL; rw [if_neg h], show short s (PutL s) = PutL s by unfold short; rw [if_neg h]] at p1
    have P1 := Lib.hid p1
    have T1 := Lib.hid (tag1 s)
    have T2 := Lib.hid (tag2 s)
    have T3 := Lib.hid (tag3 s)
    obtain ⟨P, hP⟩ : ∃ P, P = PutL s := ⟨_, rfl⟩
    rw [← hP] at P1 T1 T2 T3
    clear p1 hP
    by_cases hp : 2970 < P.length
    · have hp' : (2970 : Int) < (P.length : Int) := by omega
      clear T1 T2 T3
      go_enter Tryz.func6, Tryz.ntmps6
      go_wp2_with (first | (go_at_call 13; (with_reducible refine (tokenBegun_c _ hE hM).mono ?_); rintro e w1 ⟨rfl, hb1⟩; have h1 := hE.of_bl hb1; have m1 := hM.of_bl hb1) | (go_at_call 16; (with_reducible refine (begun_c _ h1).mono ?_); rintro e w2 ⟨rfl, hb2⟩; have h2 := h1.of_bl hb2; have m2 := m1.of_bl hb2) | (go_at_call 17; (with_reducible refine (P1.out _).mono ?_); rintro e w3 ⟨rfl, hb3⟩))
      go_ret
      exact ⟨rfl, hb1.trans (hb2.trans hb3)⟩
    · have hp' : ¬ (2970 : Int) < (P.length : Int) := by omega
      have R1 := Lib.hid (fun W h m => read_l (60 :: 120 :: 32 :: 107 :: 61 :: 34 :: (P ++ [34, 32, 98, 62])) _ (by simp; omega) (by have := T1.out; simpa using this) W h m)
      have R2 := Lib.hid (fun W h m => read_l (60 :: 88 :: 32 :: 32 :: 75 :: 32 :: 61 :: 32 :: 34 :: (P ++ [34, 32, 66, 47, 62])) _ (by simp; omega) (by have := T2.out; simpa using this) W h m)
      have R3 := Lib.hid (fun W h m (h39 : P.all (· != 39) = true) => read_l (60 :: 120 :: 32 :: 107 :: 61 :: 39 :: (P ++ [39, 32, 98, 61, 39, 39, 62])) _ (by simp; omega) (by have := T3.out h39; simpa using this) W h m)
      have S1 := Lib.hid (fun va vb W ha hb => same_self (tagL s) (tagL_small s).1 (tagL_small s).2 va vb W ha hb)
      have HP := Lib.hid hp
      clear hp T1 T2 T3
      go_enter Tryz.func6, Tryz.ntmps6
      go_wp2_with (first
        | (go_at_call 13; (with_reducible refine (tokenBegun_c _ hE hM).mono ?_); rintro e w1 ⟨rfl, hb1⟩; have h1 := hE.of_bl hb1; have m1 := hM.of_bl hb1)
        | (go_at_call 16; (with_reducible refine (begun_c _ h1).mono ?_); rintro e w2 ⟨rfl, hb2⟩; have h2 := h1.of_bl hb2; have m2 := m1.of_bl hb2)
        | (go_at_call 17; (with_reducible refine (P1.out _).mono ?_); clear P1; rintro e w3 ⟨rfl, hb3⟩; have h3 := h2.of_bl hb3; have m3 := m2.of_bl hb3; have hW3 := TkS_tag w3 s)
        | (go_at_call 7; (with_reducible refine (R1.out _ (h3.of_bl (Bl.two _ _ _)) (m3.of_bl (Bl.two _ _ _))).mono ?_); clear R1; rintro e w4 ⟨v4, rfl, hT4, hb4⟩; have hW4 := hW3.of_bl hb4; have h4 := (h3.of_bl (Bl.two _ _ _)).of_bl hb4; have m4 := (m3.of_bl (Bl.two _ _ _)).of_bl hb4)
        | (go_at_call 7; (with_reducible refine (R2.out _ h4 m4).mono ?_); clear R2; rintro e w5 ⟨v5, rfl, hT5, hb5⟩; have hW5 := hW4.of_bl hb5; have h5 := h4.of_bl hb5; have m5 := m4.of_bl hb5; have hT45 := hT4.of_bl hb5)
        | (go_at_call 15; (with_reducible refine (S1.out _ _ _ hT45 hW5).mono ?_); rintro e w6 ⟨rfl, hb6⟩; have hW6 := hW5.of_bl hb6.bl; have hT56 := hT5.of_bl hb6.bl; have h6 := h5.of_bl hb6.bl; have m6 := m5.of_bl hb6.bl)
        | (go_at_call 15; (with_reducible refine (S1.out _ _ _ hT56 hW6).mono ?_); rintro e w7 ⟨rfl, hb7⟩; have hW7 := hW6.of_bl hb7.bl; have h7 := h6.of_bl hb7.bl; have m7 := m6.of_bl hb7.bl))
      have hb17 := hb1.trans (hb2.trans (hb3.trans ((Bl.two _ _ _).trans (hb4.trans (hb5.trans (hb6.bl.trans hb7.bl))))))
      go_loop [9] (fun i => ∃ k : Nat, k ≤ P.length ∧ i = .int .i64 k ∧ Hid (39 ∉ P.take k)) (fun i => P.length - (intOf i).toNat)
      case atStart => exact ⟨0, Nat.zero_le _, rfl, Lib.hid (by simp)⟩
      case round =>
        obtain ⟨j, hj, rfl, HY⟩ := hrel
        by_cases hlt2 : j < P.length
        · have HT := Lib.hid (take_snoc P j hlt2)
          by_cases h39 : P[j] = 39
          · have m2 : ((P[j].toNat : Int) == 39) = true := by rw [h39]; rfl
            go_wp2
            go_ret
            exact ⟨rfl, hb17⟩
          · have m2 : ((P[j].toNat : Int) == 39) = false := u8_ne _ 39 h39
            go_wp2
            go_round
            case rel => exact ⟨j + 1, by omega, by go_num, Lib.hid (by
              rw [HT.out]; simp only [List.mem_append, List.mem_singleton, not_or]
              exact ⟨HY.out, fun e => h39 e.symm⟩)⟩
            case measure => simp [intOf]; omega
        · have HC := Lib.hid (show P.all (· != 39) = true by
            have := HY.out; rw [List.take_of_length_le (by omega)] at this
            rw [List.all_eq_true]; intro x hx; simp only [bne_iff_ne, ne_eq]; rintro rfl; exact this hx)
          clear HY
          go_wp2_with (first
            | (go_at_call 7; (with_reducible refine (R3.out _ h7 m7 HC.out).mono ?_); clear R3; rintro e w8 ⟨v8, rfl, hT8, hb8⟩; have hW8 := hW7.of_bl hb8)
            | (go_at_call 15; (with_reducible refine (S1.out _ _ _ hT8 hW8).mono ?_); rintro e w9 ⟨rfl, hb9⟩))
          go_ret
          exact ⟨rfl, hb17.trans (hb8.trans hb9.bl)⟩
end Go.Proofs.YtoaecehkmoehjaaGreatDoor

/- Tokens: the law TokenPlain. -/
import Derived.Test.YtoaecehkmoehjaaGreatDoorGrpC
namespace Go.Proofs.YtoaecehkmoehjaaGreatDoor
open Go.RowKit

theorem rd_short {s : List UInt8} (h : s.length ≤ 3000) : rdT s = TokL s ∧ rdE s = 0 := by
  unfold rdT rdE; rw [if_neg (by omega), if_neg (by omega)]; exact ⟨rfl, rfl⟩
theorem read_l (s : List UInt8) (l : List Tok) (h : s.length ≤ 3000) (hl : TokL s = l) (w : World) (hE : ES w) (hM : ML w) :
    Calls Tryz.prog 7 #[.string ⟨s.toArray⟩] w fun e w' => ∃ v, e = .returned (.tuple #[v, .int .i64 0]) ∧ TkS w' v l ∧ Bl w w' := by
  have r := read_c s w hE hM
  rw [(rd_short h).1, (rd_short h).2, hl] at r
  exact r
theorem txtL_small (s : List UInt8) : (txtL s).length ≤ 1099511627776 ∧ ∀ t ∈ txtL s, t.2.2.1.length ≤ 1099511627776 := by
  unfold txtL; split <;> simp
theorem u8_ne (c : UInt8) (x : UInt8) (h : c ≠ x) : ((c.toNat : Int) == (x.toNat : Int)) = false := beq_false_of_ne (fun e => h (UInt8.toNat_inj.1 (by omega)))
set_option maxRecDepth 100000 in
set_option maxHeartbeats 4000000 in
theorem tokenPlain_c (s c : List UInt8) (hs : s.length ≤ 281474976710656) (ht : c.length ≤ 281474976710656) (w : World) (hE : ES w) (hM : ML w) :
    Calls Tryz.prog 5 #[.string ⟨s.toArray⟩, .string ⟨c.toArray⟩] w fun e w' => e = .returned (.bool true) ∧ Bl w w' := by
  go_enter Tryz.func5, Tryz.ntmps5
  go_wp2_with (go_at_call 13; (with_reducible refine (tokenBegun_c _ hE hM).mono ?_); rintro e w1 ⟨rfl, hb1⟩; have h1 := hE.of_bl hb1; have m1 := hM.of_bl hb1)
  go_loop [5] (fun i => ∃ k : Nat, k ≤ s.length ∧ i = .int .i64 k ∧ Hid (60 ∉ s.take k ∧ 38 ∉ s.take k)) (fun i => s.length - (intOf i).toNat)
  case atStart => exact ⟨0, Nat.zero_le _, rfl, Lib.hid (by simp)⟩
  case round =>
    obtain ⟨k, hk, rfl, HX⟩ := hrel
    by_cases hlt : k < s.length
    · have HT := Lib.hid (take_snoc s k hlt)
      by_cases h60 : s[k] = 60
      · have m1 : ((s[k].toNat : Int) == 60) = true := by rw [h60]; rfl
        go_wp2
        go_ret
        exact ⟨rfl, hb1⟩
      · have m1 : ((s[k].toNat : Int) == 60) = false := u8_ne _ 60 h60
        by_cases h38 : s[k] = 38
        · have m2 : ((s[k].toNat : Int) == 38) = true := by rw [h38]; rfl
          go_wp2
          go_ret
          exact ⟨rfl, hb1⟩
        · have m2 : ((s[k].toNat : Int) == 38) = false := u8_ne _ 38 h38
          go_wp2
          go_round
          case rel => exact ⟨k + 1, by omega, by go_num, Lib.hid (by
            rw [HT.out]; simp only [List.mem_append, List.mem_singleton, not_or]
            exact ⟨⟨HX.out.1, fun e => h60 e.symm⟩, HX.out.2, fun e => h38 e.symm⟩)⟩
          case measure => simp [intOf]; omega
    · have HS := Lib.hid (show 60 ∉ s ∧ 38 ∉ s by have := HX.out; rwa [List.take_of_length_le (by omega)] at this)
      clear HX
      go_wp2
      go_loop [6] (fun i => ∃ k : Nat, k ≤ c.length ∧ i = .int .i64 k ∧ Hid (62 ∉ c.take k)) (fun i => c.length - (intOf i).toNat)
      case atStart => exact ⟨0, Nat.zero_le _, rfl, Lib.hid (by simp)⟩
      case round =>
        obtain ⟨j, hj, rfl, HY⟩ := hrel
        by_cases hlt2 : j < c.length
        · have HT := Lib.hid (take_snoc c j hlt2)
          by_cases h62 : c[j] = 62
          · have m2 : ((c[j].toNat : Int) == 62) = true := by rw [h62]; rfl
            go_wp2
            go_ret
            exact ⟨rfl, hb1⟩
          · have m2 : ((c[j].toNat : Int) == 62) = false := u8_ne _ 62 h62
            go_wp2
            go_round
            case rel => exact ⟨j + 1, by omega, by go_num, Lib.hid (by
              rw [HT.out]; simp only [List.mem_append, List.mem_singleton, not_or]
              exact ⟨HY.out, fun e => h62 e.symm⟩)⟩
            case measure => simp [intOf]; omega
        · have HC := Lib.hid (show 62 ∉ c by have := HY.out; rwa [List.take_of_length_le (by omega)] at this)
          clear HY
          by_cases hlen : 3000 < s.length + c.length + 7
          · have hlen' : (3000 : Int) < (s.length : Int) + (c.length : Int) + 7 := by omega
            go_wp2
            go_ret
            exact ⟨rfl, hb1⟩
          · have hlen' : ¬ (3000 : Int) < (s.length : Int) + (c.length : Int) + 7 := by omega
            have R1 := Lib.hid (fun W h m => read_l s _ (by omega) (plain1 s HS.out.1 HS.out.2) W h m)
            have R2 := Lib.hid (fun W h m => read_l (s ++ 60 :: 33 :: 45 :: 45 :: (c ++ [45, 45, 62])) _ (by simp; omega) (by have := plain2 s c HS.out.1 HS.out.2 HC.out; simpa using this) W h m)
            have R3 := Lib.hid (fun W h m => read_l (60 :: 63 :: (c ++ 62 :: s)) _ (by simp; omega) (by have := plain3 s c HS.out.1 HS.out.2 HC.out; simpa using this) W h m)
            have S1 := Lib.hid (fun va vb W ha hb => same_self (txtL s) (txtL_small s).1 (txtL_small s).2 va vb W ha hb)
            have HL := Lib.hid hlen
            clear hlen
            by_cases he : s = []
            · have HW := Lib.hid (show txtL s = [] by unfold txtL; rw [if_pos he])
              have he' : s.isEmpty = true := by rw [he]; rfl
              clear he
              go_wp2_with (first
                | (go_at_call 7; (with_reducible refine (R1.out _ h1 m1).mono ?_); clear R1; rintro e w2 ⟨v2, rfl, hT2, hb2⟩; have hb12 := hb2; have h2 := h1.of_bl hb12; have m2 := m1.of_bl hb12)
                | (go_at_call 7; (with_reducible refine (R2.out _ h2 m2).mono ?_); clear R2; rintro e w3 ⟨v3, rfl, hT3, hb3⟩; have h3 := h2.of_bl hb3; have m3 := m2.of_bl hb3)
                | (go_at_call 7; (with_reducible refine (R3.out _ h3 m3).mono ?_); clear R3; rintro e w4 ⟨v4, rfl, hT4, hb4⟩; have hT2' := (hT2.of_bl hb3).of_bl hb4; have hT3' := hT3.of_bl hb4; have hW4 := (show TkS w4 (.slice none 0 0) (txtL s) by rw [HW.out]; exact TkS.nil _))
                | (go_at_call 15; (with_reducible refine (S1.out _ _ _ hT2' hW4).mono ?_); rintro e w5 ⟨rfl, hb5⟩; have hT5 := hT3'.of_bl hb5.bl; have hW5 := hW4.of_bl hb5.bl; have hT5' := hT4.of_bl hb5.bl)
                | (go_at_call 15; (with_reducible refine (S1.out _ _ _ hT5 hW5).mono ?_); rintro e w6 ⟨rfl, hb6⟩; have hW6 := hW5.of_bl hb6.bl; have hT6 := hT5'.of_bl hb6.bl)
                | (go_at_call 15; (with_reducible refine (S1.out _ _ _ hT6 hW6).mono ?_); rintro e w7 ⟨rfl, hb7⟩))
              go_ret
              exact ⟨rfl, hb1.trans (hb12.trans (hb3.trans (hb4.trans (hb5.bl.trans (hb6.bl.trans hb7.bl)))))⟩
            · have HW := Lib.hid (show txtL s = [(1, [], [], s)] by unfold txtL; rw [if_neg he])
              have he' : s.isEmpty = false := emp he
              have hW1 := TkS_text w1 s
              rw [← HW.out] at hW1
              go_wp2_with (first
                | (go_at_call 7; (with_reducible refine (R1.out _ (h1.of_bl ((Bl.refl _).alloc _)) (m1.of_bl ((Bl.refl _).alloc _))).mono ?_); clear R1; rintro e w2 ⟨v2, rfl, hT2, hb2⟩; have hb12 := ((Bl.refl w1).alloc _).trans hb2; have h2 := h1.of_bl hb12; have m2 := m1.of_bl hb12)
                | (go_at_call 7; (with_reducible refine (R2.out _ h2 m2).mono ?_); clear R2; rintro e w3 ⟨v3, rfl, hT3, hb3⟩; have h3 := h2.of_bl hb3; have m3 := m2.of_bl hb3)
                | (go_at_call 7; (with_reducible refine (R3.out _ h3 m3).mono ?_); clear R3; rintro e w4 ⟨v4, rfl, hT4, hb4⟩; have hT2' := (hT2.of_bl hb3).of_bl hb4; have hT3' := hT3.of_bl hb4; have hW4 := ((hW1.of_bl hb2).of_bl hb3).of_bl hb4)
                | (go_at_call 15; (with_reducible refine (S1.out _ _ _ hT2' hW4).mono ?_); rintro e w5 ⟨rfl, hb5⟩; have hT5 := hT3'.of_bl hb5.bl; have hW5 := hW4.of_bl hb5.bl; have hT5' := hT4.of_bl hb5.bl)
                | (go_at_call 15; (with_reducible refine (S1.out _ _ _ hT5 hW5).mono ?_); rintro e w6 ⟨rfl, hb6⟩; have hW6 := hW5.of_bl hb6.bl; have hT6 := hT5'.of_bl hb6.bl)
                | (go_at_call 15; (with_reducible refine (S1.out _ _ _ hT6 hW6).mono ?_); rintro e w7 ⟨rfl, hb7⟩))
              go_ret
              exact ⟨rfl, hb1.trans (hb12.trans (hb3.trans (hb4.trans (hb5.bl.trans (hb6.bl.trans hb7.bl)))))⟩
end Go.Proofs.YtoaecehkmoehjaaGreatDoor

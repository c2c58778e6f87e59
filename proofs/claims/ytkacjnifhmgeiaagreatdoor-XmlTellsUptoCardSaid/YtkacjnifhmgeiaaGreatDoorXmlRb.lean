/- Documents, the reference: IsTitle; aside, misc, title, told (printed by gen_xtitle.py). -/
import Derived.Test.YtkacjnifhmgeiaaGreatDoorGrpN
import Derived.Test.YtkacjnifhmgeiaaGreatDoorGrpF
import Derived.Test.YtkacjnifhmgeiaaGreatDoorEscO
namespace Go.Proofs.YtkacjnifhmgeiaaGreatDoor
open Go.RowKit

theorem ti_yes {f : Bool} {c : UInt8} (h : tiBy f c = true) : (ltr c = true) ∨
    (ltr c = false ∧ ((c.toNat : Int) == 95) = true) ∨
    (ltr c = false ∧ ((c.toNat : Int) == 95) = false ∧ f = false ∧ dgt c = true) ∨
    (ltr c = false ∧ ((c.toNat : Int) == 95) = false ∧ f = false ∧ dgt c = false ∧ ((c.toNat : Int) == 45) = true) ∨
    (ltr c = false ∧ ((c.toNat : Int) == 95) = false ∧ f = false ∧ dgt c = false ∧ ((c.toNat : Int) == 45) = false ∧ ((c.toNat : Int) == 46) = true) ∨
    (ltr c = false ∧ ((c.toNat : Int) == 95) = false ∧ f = false ∧ dgt c = false ∧ ((c.toNat : Int) == 45) = false ∧ ((c.toNat : Int) == 46) = false ∧ ((c.toNat : Int) == 58) = true) := by
  have hc := u8_lt c
  cases f <;> cases hl : ltr c <;> cases hd : dgt c <;> simp_all [tiBy, tiB, tiB1] <;> omega
theorem ti_not {f : Bool} {c : UInt8} (h : tiBy f c = false) : (ltr c = false ∧ ((c.toNat : Int) == 95) = false ∧ f = true) ∨
    (ltr c = false ∧ ((c.toNat : Int) == 95) = false ∧ f = false ∧ dgt c = false ∧ ((c.toNat : Int) == 45) = false ∧ ((c.toNat : Int) == 46) = false ∧ ((c.toNat : Int) == 58) = false) := by
  have hc := u8_lt c
  cases f <;> cases hl : ltr c <;> cases hd : dgt c <;> simp_all [tiBy, tiB, tiB1] <;> omega
theorem betwD_c (c : UInt8) (w : World) : Calls Tryz.prog 65 #[.int .i64 (c.toNat : Int), .int .i64 48, .int .i64 57] w fun e w' => e = .returned (.bool (dgt c)) ∧ w = w' := by
  refine (between_c _ _ _ _).mono ?_
  rintro e w' ⟨rfl, rfl⟩
  refine ⟨ret_bool ?_, rfl⟩
  rw [Bool.eq_iff_iff]
  simp [dgt]
  omega
/-- The error of the reader. -/
def eOf (b : Nat) (w : World) : Nat := match w.cell? ⟨b, 2, none⟩ with
  | some v => (intOf v).natAbs
  | none => 0
theorem Yr.e_eq {w : World} {b : Nat} {s t : List UInt8} {n : Int} (h : Yr w b s t n) : eOf b w = n.natAbs := by
  unfold eOf; rw [h.rk.cells.2.2.1]; simp [intOf]
set_option maxHeartbeats 2000000 in
theorem isTitle_c (l : List UInt8) (hl : l.length ≤ 1099511627776) (w : World) : Calls Tryz.prog 40 #[.string ⟨l.toArray⟩] w fun e w' => e = .returned (.bool (isTi l)) ∧ w = w' := by
  by_cases h20 : 1 ≤ l.length ∧ l.length ≤ 20
  · obtain ⟨h1, h2⟩ := h20
    have h1' : (1 : Int) ≤ (l.length : Int) := by omega
    have h2' : (l.length : Int) ≤ 20 := by omega
    go_enter Tryz.func40, Tryz.ntmps40
    go_wp2_with (go_at_call 65; refine (between_c _ _ _ _).mono ?_; rintro e w' ⟨rfl, rfl⟩)
    go_loop [3] (fun i => ∃ k : Nat, k ≤ l.length ∧ i = .int .i64 k ∧ Hid (∀ i (h : i < l.length), i < k → tiBy (decide (i = 0)) l[i] = true)) (fun i => l.length - (intOf i).toNat)
    case atStart => exact ⟨0, Nat.zero_le _, rfl, Lib.hid (fun i _ h => by omega)⟩
    case round =>
      obtain ⟨k, hk, rfl, HP⟩ := hrel
      by_cases hlt : k < l.length
      · cases hT : tiBy (decide (k = 0)) l[k] with
        | true =>
          have HT := Lib.hid hT
          rcases ti_yes hT with hl | ⟨hl, h95⟩ | ⟨hl, h95, hf, hd⟩ | ⟨hl, h95, hf, hd, h45⟩ | ⟨hl, h95, hf, hd, h45, h46⟩ | ⟨hl, h95, hf, hd, h45, h46, h58⟩
          all_goals clear hT
          · have LC := Lib.hid (fun W => isLetter_c l[k] W)
            rw [hl] at LC
            have hwr : wrap64 (l[k].toNat : Int) = (l[k].toNat : Int) := by have := u8_lt l[k]; unfold wrap64; omega
            clear hl
            go_wp2_with (first | (go_at_call 46; (with_reducible refine (LC.out _).mono ?_); rintro e w7 ⟨rfl, rfl⟩))
            go_round
            case rel =>
              refine ⟨k + 1, by omega, by go_num, Lib.hid (fun i h hi => ?_)⟩
              by_cases e : i = k
              · subst e; exact HT.out
              · exact HP.out i h (by omega)
            case measure => simp [intOf]; omega
          · have LC := Lib.hid (fun W => isLetter_c l[k] W)
            rw [hl] at LC
            have hwr : wrap64 (l[k].toNat : Int) = (l[k].toNat : Int) := by have := u8_lt l[k]; unfold wrap64; omega
            clear hl
            go_wp2_with (first | (go_at_call 46; (with_reducible refine (LC.out _).mono ?_); rintro e w7 ⟨rfl, rfl⟩))
            go_round
            case rel =>
              refine ⟨k + 1, by omega, by go_num, Lib.hid (fun i h hi => ?_)⟩
              by_cases e : i = k
              · subst e; exact HT.out
              · exact HP.out i h (by omega)
            case measure => simp [intOf]; omega
          · have LC := Lib.hid (fun W => isLetter_c l[k] W)
            rw [hl] at LC
            have hwr : wrap64 (l[k].toNat : Int) = (l[k].toNat : Int) := by have := u8_lt l[k]; unfold wrap64; omega
            have hk0 : k ≠ 0 := by simpa using hf
            have hz1 : decide ((0 : Int) < (k : Int)) = true := by simp; omega
            have hz2 : decide (0 < k) = true := by simp; omega
            have hz3 : 0 < k := by omega
            clear hf hk0
            have BC := Lib.hid (fun W => betwD_c l[k] W)
            rw [hd] at BC
            clear hd
            clear hl
            go_wp2_with (first | (go_at_call 46; (with_reducible refine (LC.out _).mono ?_); rintro e w7 ⟨rfl, rfl⟩) | (go_at_call 65; (with_reducible refine (BC.out _).mono ?_); rintro e w7 ⟨rfl, rfl⟩))
            go_round
            case rel =>
              refine ⟨k + 1, by omega, by go_num, Lib.hid (fun i h hi => ?_)⟩
              by_cases e : i = k
              · subst e; exact HT.out
              · exact HP.out i h (by omega)
            case measure => simp [intOf]; omega
          · have LC := Lib.hid (fun W => isLetter_c l[k] W)
            rw [hl] at LC
            have hwr : wrap64 (l[k].toNat : Int) = (l[k].toNat : Int) := by have := u8_lt l[k]; unfold wrap64; omega
            have hk0 : k ≠ 0 := by simpa using hf
            have hz1 : decide ((0 : Int) < (k : Int)) = true := by simp; omega
            have hz2 : decide (0 < k) = true := by simp; omega
            have hz3 : 0 < k := by omega
            clear hf hk0
            have BC := Lib.hid (fun W => betwD_c l[k] W)
            rw [hd] at BC
            clear hd
            clear hl
            go_wp2_with (first | (go_at_call 46; (with_reducible refine (LC.out _).mono ?_); rintro e w7 ⟨rfl, rfl⟩) | (go_at_call 65; (with_reducible refine (BC.out _).mono ?_); rintro e w7 ⟨rfl, rfl⟩))
            go_round
            case rel =>
              refine ⟨k + 1, by omega, by go_num, Lib.hid (fun i h hi => ?_)⟩
              by_cases e : i = k
              · subst e; exact HT.out
              · exact HP.out i h (by omega)
            case measure => simp [intOf]; omega
          · have LC := Lib.hid (fun W => isLetter_c l[k] W)
            rw [hl] at LC
            have hwr : wrap64 (l[k].toNat : Int) = (l[k].toNat : Int) := by have := u8_lt l[k]; unfold wrap64; omega
            have hk0 : k ≠ 0 := by simpa using hf
            have hz1 : decide ((0 : Int) < (k : Int)) = true := by simp; omega
            have hz2 : decide (0 < k) = true := by simp; omega
            have hz3 : 0 < k := by omega
            clear hf hk0
            have BC := Lib.hid (fun W => betwD_c l[k] W)
            rw [hd] at BC
            clear hd
            clear hl
            go_wp2_with (first | (go_at_call 46; (with_reducible refine (LC.out _).mono ?_); rintro e w7 ⟨rfl, rfl⟩) | (go_at_call 65; (with_reducible refine (BC.out _).mono ?_); rintro e w7 ⟨rfl, rfl⟩))
            go_round
            case rel =>
              refine ⟨k + 1, by omega, by go_num, Lib.hid (fun i h hi => ?_)⟩
              by_cases e : i = k
              · subst e; exact HT.out
              · exact HP.out i h (by omega)
            case measure => simp [intOf]; omega
          · have LC := Lib.hid (fun W => isLetter_c l[k] W)
            rw [hl] at LC
            have hwr : wrap64 (l[k].toNat : Int) = (l[k].toNat : Int) := by have := u8_lt l[k]; unfold wrap64; omega
            have hk0 : k ≠ 0 := by simpa using hf
            have hz1 : decide ((0 : Int) < (k : Int)) = true := by simp; omega
            have hz2 : decide (0 < k) = true := by simp; omega
            have hz3 : 0 < k := by omega
            clear hf hk0
            have BC := Lib.hid (fun W => betwD_c l[k] W)
            rw [hd] at BC
            clear hd
            clear hl
            go_wp2_with (first | (go_at_call 46; (with_reducible refine (LC.out _).mono ?_); rintro e w7 ⟨rfl, rfl⟩) | (go_at_call 65; (with_reducible refine (BC.out _).mono ?_); rintro e w7 ⟨rfl, rfl⟩))
            go_round
            case rel =>
              refine ⟨k + 1, by omega, by go_num, Lib.hid (fun i h hi => ?_)⟩
              by_cases e : i = k
              · subst e; exact HT.out
              · exact HP.out i h (by omega)
            case measure => simp [intOf]; omega
        | false =>
          have HN := Lib.hid (isTi_no l k hlt hT)
          rcases ti_not hT with ⟨hl, h95, hf⟩ | ⟨hl, h95, hf, hd, h45, h46, h58⟩
          all_goals clear hT
          · have LC := Lib.hid (fun W => isLetter_c l[k] W)
            rw [hl] at LC
            have hwr : wrap64 (l[k].toNat : Int) = (l[k].toNat : Int) := by have := u8_lt l[k]; unfold wrap64; omega
            have hk0 : k = 0 := by simpa using hf
            have hz1 : decide ((0 : Int) < (k : Int)) = false := by simp [hk0]
            have hz2 : decide (0 < k) = false := by simp [hk0]
            have hz3 : ¬ 0 < k := by omega
            clear hf hk0
            clear hl
            go_wp2_with (first | (go_at_call 46; (with_reducible refine (LC.out _).mono ?_); rintro e w7 ⟨rfl, rfl⟩))
            go_ret
            exact ⟨by rw [HN.out]; rfl, rfl⟩
          · have LC := Lib.hid (fun W => isLetter_c l[k] W)
            rw [hl] at LC
            have hwr : wrap64 (l[k].toNat : Int) = (l[k].toNat : Int) := by have := u8_lt l[k]; unfold wrap64; omega
            have hk0 : k ≠ 0 := by simpa using hf
            have hz1 : decide ((0 : Int) < (k : Int)) = true := by simp; omega
            have hz2 : decide (0 < k) = true := by simp; omega
            have hz3 : 0 < k := by omega
            clear hf hk0
            have BC := Lib.hid (fun W => betwD_c l[k] W)
            rw [hd] at BC
            clear hd
            clear hl
            go_wp2_with (first | (go_at_call 46; (with_reducible refine (LC.out _).mono ?_); rintro e w7 ⟨rfl, rfl⟩) | (go_at_call 65; (with_reducible refine (BC.out _).mono ?_); rintro e w7 ⟨rfl, rfl⟩))
            go_ret
            exact ⟨by rw [HN.out]; rfl, rfl⟩
      · have HN := Lib.hid (isTi_pos l (fun i h => HP.out i h (by omega)) h2 (by rintro rfl; simp at h1))
        go_wp2
        go_ret
        exact ⟨by rw [HN.out]; rfl, rfl⟩
  · have HN := Lib.hid (isTi_long l (by
      rcases Nat.lt_or_ge 20 l.length with h | h
      · exact Or.inl h
      · exact Or.inr (List.eq_nil_of_length_eq_zero (by omega))))
    have h20' : (decide ((1 : Int) ≤ (l.length : Int)) && decide ((l.length : Int) ≤ 20)) = false := by
      cases h : (decide ((1 : Int) ≤ (l.length : Int)) && decide ((l.length : Int) ≤ 20))
      · rfl
      · simp only [Bool.and_eq_true, decide_eq_true_eq] at h; omega
    have H20 := Lib.hid h20
    clear h20
    go_enter Tryz.func40, Tryz.ntmps40
    go_wp2_with (go_at_call 65; refine (between_c _ _ _ _).mono ?_; rintro e w' ⟨rfl, rfl⟩)
    all_goals first
      | (go_ret
         exact ⟨by rw [HN.out]; rfl, rfl⟩)
      | (exfalso; have := H20.out; omega)
theorem asX_err {t : List UInt8} {n : Int} (h : asX t = .error n) : n ≠ 0 := by
  unfold asX at h
  split at h
  · split at h
    · cases h
    · cases h; decide
  · split at h
    · split at h
      · cases h
      · cases h; decide
    · cases h
set_option maxHeartbeats 1000000 in
theorem asideR_com (b : Nat) (s t : List UInt8) (w : World) (hR : Yr w b s t 0) (hs : s.length ≤ 1073741824) (h1 : pre [60, 33, 45, 45] t = true) :
    Calls Tryz.prog 43 #[.pointer (some ⟨b, 0, none⟩)] w fun e w' => w.grownBy w' (some b) ∧ match cutS [45, 45, 62] (t.drop 4) with
      | none => e = .returned (.bool true) ∧ ∃ t', Yr w' b s t' 1
      | some r => e = .returned (.bool true) ∧ Yr w' b s r 0 := by
  have hpl := pre_len h1
  have hl := hR.len
  simp only [List.length_cons, List.length_nil] at hpl
  obtain ⟨k, hk⟩ : ∃ k, k = s.length - t.length := ⟨_, rfl⟩
  have hd := sfx_drop hR.sf
  obtain ⟨c0, c1, c2, f0, f1, f2⟩ := hR.at_ hk
  rw [← hk] at hd
  have SA := Lib.hid (fun W => startsAt_c s [60, 33, 45, 45] k (by omega) (by decide) (by omega) W)
  rw [hd, h1] at SA
  have HR := Lib.hid hR
  have HK := Lib.hid hk
  have hkl : k + 4 ≤ s.length := by omega
  have HP := Lib.hid hpl
  clear hR h1 hk hpl hd
  cases hc : cutS [45, 45, 62] (t.drop 4) with
  | none =>
    have TC := Lib.hid (fun W h => skipR_no [45, 45, 62] (by simp) (by decide) b s (t.drop 4) W h (by omega) (toS_of_none hc))
    clear hc
    go_enter Tryz.func43, Tryz.ntmps43
    go_wp2_with (first | (go_at_call 48; (with_reducible refine (TC.out _ ((HR.out.of_bl ((Bl.refl _).drewN _)).adv HP.out (by rw [← HK.out]; omega))).mono ?_); rintro e w2 ⟨rfl, hR2, hg2⟩) | go_quiet (first | (go_at_call 47; (with_reducible exact quiet_eq (SA.out _)))))
    go_ret
    exact ⟨gb_trans (gb_set (gb_drewN (gb_refl _ _) _) _ _) hg2, rfl, _, hR2⟩
  | some r =>
    obtain ⟨v, hv⟩ := toS_of hc
    have TC := Lib.hid (fun W h => skipR_yes [45, 45, 62] (by simp) (by decide) b s (t.drop 4) v r W h (by omega) hv)
    clear hc hv
    go_enter Tryz.func43, Tryz.ntmps43
    go_wp2_with (first | (go_at_call 48; (with_reducible refine (TC.out _ ((HR.out.of_bl ((Bl.refl _).drewN _)).adv HP.out (by rw [← HK.out]; omega))).mono ?_); rintro e w2 ⟨rfl, hR2, hg2⟩) | go_quiet (first | (go_at_call 47; (with_reducible exact quiet_eq (SA.out _)))))
    go_ret
    exact ⟨gb_trans (gb_set (gb_drewN (gb_refl _ _) _) _ _) hg2, rfl, hR2⟩
set_option maxHeartbeats 1000000 in
theorem asideR_pi (b : Nat) (s t : List UInt8) (w : World) (hR : Yr w b s t 0) (hs : s.length ≤ 1073741824) (h1 : pre [60, 33, 45, 45] t = false) (h2 : pre [60, 63] t = true) :
    Calls Tryz.prog 43 #[.pointer (some ⟨b, 0, none⟩)] w fun e w' => w.grownBy w' (some b) ∧ match cutS [63, 62] (t.drop 2) with
      | none => e = .returned (.bool true) ∧ ∃ t', Yr w' b s t' 1
      | some r => e = .returned (.bool true) ∧ Yr w' b s r 0 := by
  have hpl := pre_len h2
  have hl := hR.len
  simp only [List.length_cons, List.length_nil] at hpl
  obtain ⟨k, hk⟩ : ∃ k, k = s.length - t.length := ⟨_, rfl⟩
  have hd := sfx_drop hR.sf
  obtain ⟨c0, c1, c2, f0, f1, f2⟩ := hR.at_ hk
  rw [← hk] at hd
  have SA := Lib.hid (fun W => startsAt_c s [60, 33, 45, 45] k (by omega) (by decide) (by omega) W)
  rw [hd, h1] at SA
  have SB := Lib.hid (fun W => startsAt_c s [60, 63] k (by omega) (by decide) (by omega) W)
  rw [hd, h2] at SB
  have HR := Lib.hid hR
  have HK := Lib.hid hk
  have hkl : k + 2 ≤ s.length := by omega
  have HP := Lib.hid hpl
  clear hR h1 h2 hk hpl hd
  cases hc : cutS [63, 62] (t.drop 2) with
  | none =>
    have TC := Lib.hid (fun W h => skipR_no [63, 62] (by simp) (by decide) b s (t.drop 2) W h (by omega) (toS_of_none hc))
    clear hc
    go_enter Tryz.func43, Tryz.ntmps43
    go_wp2_with (first | (go_at_call 48; (with_reducible refine (TC.out _ ((HR.out.of_bl ((Bl.refl _).drewN _)).adv HP.out (by rw [← HK.out]; omega))).mono ?_); rintro e w2 ⟨rfl, hR2, hg2⟩) | go_quiet (first | (go_at_call 47; (with_reducible exact quiet_eq (SA.out _))) | (go_at_call 47; (exact quiet_eq2 (SB.out _)))))
    go_ret
    exact ⟨gb_trans (gb_set (gb_drewN (gb_refl _ _) _) _ _) hg2, rfl, _, hR2⟩
  | some r =>
    obtain ⟨v, hv⟩ := toS_of hc
    have TC := Lib.hid (fun W h => skipR_yes [63, 62] (by simp) (by decide) b s (t.drop 2) v r W h (by omega) hv)
    clear hc hv
    go_enter Tryz.func43, Tryz.ntmps43
    go_wp2_with (first | (go_at_call 48; (with_reducible refine (TC.out _ ((HR.out.of_bl ((Bl.refl _).drewN _)).adv HP.out (by rw [← HK.out]; omega))).mono ?_); rintro e w2 ⟨rfl, hR2, hg2⟩) | go_quiet (first | (go_at_call 47; (with_reducible exact quiet_eq (SA.out _))) | (go_at_call 47; (exact quiet_eq2 (SB.out _)))))
    go_ret
    exact ⟨gb_trans (gb_set (gb_drewN (gb_refl _ _) _) _ _) hg2, rfl, hR2⟩
set_option maxHeartbeats 1000000 in
theorem asideR_none (b : Nat) (s t : List UInt8) (w : World) (hR : Yr w b s t 0) (hs : s.length ≤ 1073741824) (h1 : pre [60, 33, 45, 45] t = false) (h2 : pre [60, 63] t = false) :
    Calls Tryz.prog 43 #[.pointer (some ⟨b, 0, none⟩)] w fun e w' => e = .returned (.bool false) ∧ Qt w w' := by
  have hl := hR.len
  obtain ⟨k, hk⟩ : ∃ k, k = s.length - t.length := ⟨_, rfl⟩
  have hd := sfx_drop hR.sf
  obtain ⟨c0, c1, c2, f0, f1, f2⟩ := hR.at_ hk
  rw [← hk] at hd
  have SA := Lib.hid (fun W => startsAt_c s [60, 33, 45, 45] k (by omega) (by decide) (by omega) W)
  rw [hd, h1] at SA
  have SB := Lib.hid (fun W => startsAt_c s [60, 63] k (by omega) (by decide) (by omega) W)
  rw [hd, h2] at SB
  clear hR hk hd h1 h2 hl
  go_enter Tryz.func43, Tryz.ntmps43
  go_wp2_with (go_quiet (first | (go_at_call 47; (with_reducible exact quiet_eq (SA.out _))) | (go_at_call 47; (exact quiet_eq2 (SB.out _)))))
  go_ret
  exact ⟨rfl, by repeat (first | exact Qt.refl _ | refine Qt.drewN ?_ _)⟩
theorem asideR_c (b : Nat) (s t : List UInt8) (w : World) (hR : Yr w b s t 0) (hs : s.length ≤ 1073741824) :
    Calls Tryz.prog 43 #[.pointer (some ⟨b, 0, none⟩)] w (YE w b s (asX t) (fun o => .bool o.isSome) (fun v => v = .bool true) fun o => o.getD t) := by
  by_cases h1 : pre [60, 33, 45, 45] t = true
  · refine (asideR_com b s t w hR hs h1).mono ?_
    rintro e w' ⟨hg, h⟩
    refine ⟨hg, ?_⟩
    unfold asX
    rw [if_pos (show pre sCom t = true from h1), show sComE = [45, 45, 62] from rfl]
    cases hc : cutS [45, 45, 62] (t.drop 4) with
    | none => rw [hc] at h; obtain ⟨rfl, t', h⟩ := h; exact ⟨_, t', rfl, rfl, h⟩
    | some r => rw [hc] at h; exact h
  · have h1' : pre [60, 33, 45, 45] t = false := by simpa using h1
    by_cases h2 : pre [60, 63] t = true
    · refine (asideR_pi b s t w hR hs h1' h2).mono ?_
      rintro e w' ⟨hg, h⟩
      refine ⟨hg, ?_⟩
      unfold asX
      rw [if_neg (show ¬ pre sCom t = true from h1), if_pos (show pre sPi t = true from h2), show sPiE = [63, 62] from rfl]
      cases hc : cutS [63, 62] (t.drop 2) with
      | none => rw [hc] at h; obtain ⟨rfl, t', h⟩ := h; exact ⟨_, t', rfl, rfl, h⟩
      | some r => rw [hc] at h; exact h
    · refine (asideR_none b s t w hR hs h1' (by simpa using h2)).mono ?_
      rintro e w' ⟨rfl, hq⟩
      refine ⟨gb_qt hq, ?_⟩
      unfold asX
      rw [if_neg (show ¬ pre sCom t = true from h1), if_neg (show ¬ pre sPi t = true from h2)]
      exact ⟨rfl, hR.of_bl hq.bl⟩
set_option maxHeartbeats 1000000 in
theorem miscR_c (b : Nat) (s t : List UInt8) (w : World) (hR : Yr w b s t 0) (hs : s.length ≤ 1073741824) :
    Calls Tryz.prog 21 #[.pointer (some ⟨b, 0, none⟩)] w (YE w b s (miX t) (fun _ => .tuple #[]) (fun v => v = .tuple #[]) fun r => r) := by
  go_enter Tryz.func21, Tryz.ntmps21
  go_wp2
  go_loopw [] (fun wr => w.grownBy wr (some b) ∧ ((∃ t' : List UInt8, Hid (miX t = miX t') ∧ Yr wr b s t' 0) ∨ ∃ (t' : List UInt8) (n : Int), Hid (miX t = .error n ∧ n ≠ 0) ∧ Yr wr b s t' n)) (fun wr => if eOf b wr = 0 then s.length - atOf b wr + 1 else 0)
  case atStart => exact ⟨gb_refl _ _, .inl ⟨t, Lib.hid rfl, hR⟩⟩
  case round =>
    obtain ⟨hg, ⟨t', HA, hRr⟩ | ⟨t', n, HA, hRr⟩⟩ := hrel
    · have hm := hRr.meas
      have hl := hRr.len
      have hwl := wsX_len t'
      have h20 : eOf b wr = 0 := by rw [hRr.e_eq]; rfl
      have WC := Lib.hid (blanksR_c b s t' 0 wr hRr (by omega))
      obtain ⟨c0, c1, c2, f0, f1, f2⟩ := hRr.rk.cells
      by_cases hlt : (wsX t').length < t'.length
      · rw [decide_eq_true hlt] at WC
        have HX := Lib.hid (miX_ws hlt)
        clear c0 c1 f0 f1
        go_wp2_with (go_at_call 42; (with_reducible refine WC.out.mono ?_); rintro e w1 ⟨rfl, hR1, hg1⟩)
        go_roundw
        case rel => exact ⟨gb_trans hg hg1, .inl ⟨_, Lib.hid (HA.out.trans HX.out), hR1⟩⟩
        case measure => rw [if_pos (by rw [hR1.e_eq]; rfl), if_pos h20, hm, hR1.meas]; omega
      · have hws := miX_as2 t' (by omega)
        rw [decide_eq_false hlt, hws] at WC
        have AC := Lib.hid (fun W h => asideR_c b s t' W h hs)
        have HX := Lib.hid (miX_as hlt)
        clear c0 c1 f0 f1
        cases ha : asX t' with
        | error n =>
          have hn := asX_err ha
          rw [ha] at AC HX
          clear ha
          go_wp2_with (first | (go_at_call 42; (with_reducible refine WC.out.mono ?_); rintro e w1 ⟨rfl, hR1, hg1⟩) | (go_at_call 43; (with_reducible refine (AC.out _ hR1).mono ?_); rintro e w2 ⟨hg2, _, t2, rfl, rfl, hR2⟩))
          go_roundw
          case rel => exact ⟨gb_trans (gb_trans hg hg1) hg2, .inr ⟨t2, n, Lib.hid ⟨HA.out.trans HX.out, hn⟩, hR2⟩⟩
          case measure => rw [if_neg (by rw [hR2.e_eq]; omega), if_pos h20]; omega
        | ok o =>
          rw [ha] at AC HX
          cases o with
          | none =>
            clear ha
            go_wp2_with (first | (go_at_call 42; (with_reducible refine WC.out.mono ?_); rintro e w1 ⟨rfl, hR1, hg1⟩) | (go_at_call 43; (with_reducible refine (AC.out _ hR1).mono ?_); rintro e w2 ⟨hg2, rfl, hR2⟩))
            go_end0
            refine ⟨gb_trans (gb_trans hg hg1) hg2, ?_⟩
            rw [HA.out, HX.out]
            exact ⟨rfl, hR2⟩
          | some r =>
            have HL := Lib.hid (asX_len ha)
            clear ha
            go_wp2_with (first | (go_at_call 42; (with_reducible refine WC.out.mono ?_); rintro e w1 ⟨rfl, hR1, hg1⟩) | (go_at_call 43; (with_reducible refine (AC.out _ hR1).mono ?_); rintro e w2 ⟨hg2, rfl, hR2⟩))
            go_roundw
            case rel => exact ⟨gb_trans (gb_trans hg hg1) hg2, .inl ⟨_, Lib.hid (HA.out.trans HX.out), hR2⟩⟩
            case measure =>
              have h9 := hR2.meas
              have h8 := HL.out
              simp only [Option.getD_some] at h9
              rw [if_pos (by rw [hR2.e_eq]; rfl), if_pos h20, hm, h9]; omega
    · obtain ⟨c0, c1, c2, f0, f1, f2⟩ := hRr.rk.cells
      have hn0 : (n == 0) = false := by simpa using HA.out.2
      have hn1 : ¬ n = 0 := HA.out.2
      go_wp2
      go_end0
      refine ⟨hg, ?_⟩
      rw [HA.out.1]
      exact ⟨_, t', rfl, rfl, hRr⟩
theorem toldR_yes (l : List UInt8) (hl : l.length ≤ 1099511627776) (b : Nat) (w : World) (h : (Tk l).2 = true) :
    Calls Tryz.prog 50 #[.pointer (some ⟨b, 0, none⟩), .string ⟨l.toArray⟩] w fun e w' => e = .returned (.string ⟨(Tk l).1.toArray⟩) ∧ Bl w w' := by
  have TC := Lib.hid (takeOf_c l hl w)
  rw [h] at TC
  clear h
  go_enter Tryz.func50, Tryz.ntmps50
  go_wp2_with (go_at_call 67; (with_reducible refine TC.out.mono ?_); rintro e w1 ⟨rfl, hb⟩)
  go_ret
  exact ⟨rfl, hb⟩
theorem toldR_no (l : List UInt8) (hl : l.length ≤ 1099511627776) (b : Nat) (s t : List UInt8) (w : World) (hR : Yr w b s t 0) (h : (Tk l).2 = false) :
    Calls Tryz.prog 50 #[.pointer (some ⟨b, 0, none⟩), .string ⟨l.toArray⟩] w fun e w' => e = .returned (.string ⟨(Tk l).1.toArray⟩) ∧ Yr w' b s t 1 ∧ w.grownBy w' (some b) := by
  have TC := Lib.hid (takeOf_c l hl w)
  rw [h] at TC
  clear h
  go_enter Tryz.func50, Tryz.ntmps50
  go_wp2_with (first | (go_at_call 67; (with_reducible refine TC.out.mono ?_); rintro e w1 ⟨rfl, hb⟩) | (go_at_call 23; (with_reducible refine (failR_c 1 (by decide) b s t _ (hR.of_bl hb)).mono ?_); rintro e w2 ⟨rfl, hR2, hg2⟩))
  go_ret
  exact ⟨rfl, hR2, gb_trans (gb_bl hb) hg2⟩
end Go.Proofs.YtkacjnifhmgeiaaGreatDoor

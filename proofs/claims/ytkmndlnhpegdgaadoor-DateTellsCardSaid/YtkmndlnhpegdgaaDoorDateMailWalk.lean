/- MailOf of the reference: the walk. -/
import Derived.Test.YtkmndlnhpegdgaaDoorDateMailRef
import Derived.Deep.DeepCutAuto
import Derived.Deep.DrawnRows
namespace Go.Proofs.YtkmndlnhpegdgaaDoor
open Go.RowKit
attribute [local go_sem ↓] Go.wp_at_zero Go.wp_at_succ

/-- The text behind the head. -/
def mailBody (l : List UInt8) : List UInt8 := if 5 < l.length ∧ Form (l.take 5) mailHead = true then l.drop 5 else l
theorem mailBody_len (l : List UInt8) : (mailBody l).length ≤ l.length := by unfold mailBody; split <;> simp
theorem MailT_body (l : List UInt8) : MailT l = MailM (mailBody l) := by unfold MailT mailBody; split <;> rfl
/-- The names of the months lie in block b. -/
def Nms (w : World) (b : Nat) : Prop := ∀ k, k < 12 → w.cell? ⟨b, k, none⟩ = some (.string ⟨(monL (k + 1)).toArray⟩)
theorem Nms.drewN {w : World} {b : Nat} (h : Nms w b) (n : Nat) : Nms (w.drewN n) b := fun k hk => by rw [World.cell?_drewN]; exact h k hk
theorem Nms_new (W : World) (T : TypeId) (B : Nat) (hB : W.heap.size = B) : Nms (W.alloc (Obj.cells #[Value.string { data := #[74, 97, 110] }, Value.string { data := #[70, 101, 98] }, Value.string { data := #[77, 97, 114] }, Value.string { data := #[65, 112, 114] }, Value.string { data := #[77, 97, 121] }, Value.string { data := #[74, 117, 110] }, Value.string { data := #[74, 117, 108] }, Value.string { data := #[65, 117, 103] }, Value.string { data := #[83, 101, 112] }, Value.string { data := #[79, 99, 116] }, Value.string { data := #[78, 111, 118] }, Value.string { data := #[68, 101, 99] }] T)) B := by
  subst hB
  intro k hk
  have : k = 0 ∨ k = 1 ∨ k = 2 ∨ k = 3 ∨ k = 4 ∨ k = 5 ∨ k = 6 ∨ k = 7 ∨ k = 8 ∨ k = 9 ∨ k = 10 ∨ k = 11 := by omega
  rcases this with rfl | rfl | rfl | rfl | rfl | rfl | rfl | rfl | rfl | rfl | rfl | rfl <;> simp [World.cell?_alloc_new, monL]
theorem MailS_bad {m : List UInt8} {d : Nat} {f : List UInt8} (h1 : ¬ m.length < d + 19) (hF : Form (m.take (d + 19)) f = true) (hz : (MailZ (m.drop (d + 19))).2 = false ∨ monIx ((m.drop (d + 1)).take 3) = 0) : MailS m d f = errForm := by
  unfold MailS; rw [if_neg (by rw [hF]; simp; omega), if_pos hz]
theorem MailS_good {m : List UInt8} {d : Nat} {f : List UInt8} (h1 : ¬ m.length < d + 19) (hF : Form (m.take (d + 19)) f = true) (hz : ¬ ((MailZ (m.drop (d + 19))).2 = false ∨ monIx ((m.drop (d + 1)).take 3) = 0)) (v : Int) (hv : (MailZ (m.drop (d + 19))).1 = v) :
    MailS m d f = TimeT (Num ((m.drop (d + 5)).take 4)) (monIx ((m.drop (d + 1)).take 3)) (Num (m.take d)) (Num (((m.drop (d + 10)).take 8).take 2)) (Num ((((m.drop (d + 10)).take 8).drop 3).take 2)) (Num (((m.drop (d + 10)).take 8).drop 6)) v := by
  unfold MailS; rw [if_neg (by rw [hF]; simp; omega), if_neg hz, hv]
def preB (l : List UInt8) : Bool := decide (5 < l.length ∧ Form (l.take 5) mailHead = true)

set_option maxRecDepth 100000 in
set_option maxHeartbeats 2000000 in
theorem mailOf_short (l m : List UInt8) (hl : l.length ≤ 9223372036854775807) (HM : Hid (mailBody l = m)) (hb : m.length ≤ 1) (w : World) :
    Calls Tryd.prog 11 #[.string ⟨l.toArray⟩] w fun e w' => e = MailM m ∧ Bl w w' := by
  have hM : MailM m = errForm := by
    have h1 : isOne m = false := by
      match m, hb with
      | [], _ => rfl
      | [x], _ => rfl
    unfold MailM
    rw [h1, if_neg (by simp)]
    unfold MailS
    rw [if_pos (Or.inl (by omega))]
  rw [hM]
  have hb' : ¬ (1 : Int) < (m.length : Int) := by omega
  have i21 : (m.length : Int) < 21 := by omega
  clear hM
  go_enter Tryd.func11, Tryd.ntmps11
  go_upto_region 1 with fail
  go_cut [18] (fun s18 wx => s18 = .bool (preB l) ∧ Qt w wx)
  case first =>
    by_cases h5 : 5 < l.length
    · cases hF : Form (l.take 5) mailHead
      all_goals
        have hB : preB l = Form (l.take 5) mailHead := by simp [preB, h5]
        rw [hF] at hB
        have HB := Lib.hid hB
        have hF5 : Form (List.take 5 l) [97, 97, 97, 44, 32] = _ := hF
        have i5 : (5 : Int) ≤ l.length := by omega
        clear hF hB
        go_wp2_with (go_at_call 25; refine (form_c _ _ (by simp <;> omega) _).mono ?_; rintro e w' ⟨rfl, n, rfl⟩)
        go_meet
        case rel => exact ⟨by rw [HB.out], _, rfl⟩
    · have HB := Lib.hid (show preB l = false by simp [preB, h5])
      go_wp2_with fail
      go_meet
      case rel => exact ⟨by rw [HB.out], Qt.refl _⟩
  case rest =>
    obtain ⟨rfl, n0, rfl⟩ := hcut
    go_upto_if 18 with fail
    go_cut [0] (fun s0 wx => s0 = .string ⟨m.toArray⟩ ∧ Qt w wx)
    case first =>
      cases hB : preB l
      · have HB := Lib.hid (show m = l by rw [← HM.out]; unfold mailBody; rw [if_neg (by simpa [preB] using hB)])
        clear hB
        go_wp2_with fail
        go_meet
        case rel => exact ⟨by rw [HB.out], _, rfl⟩
      · have hB' : 5 < l.length ∧ Form (l.take 5) mailHead = true := by simpa [preB] using hB
        have HB := Lib.hid (show m = l.drop 5 by rw [← HM.out];  unfold mailBody; rw [if_pos hB'])
        have i5 : (5 : Int) ≤ l.length := by omega
        have i6 : 5 ≤ l.length := by omega
        clear hB hB'
        go_wp2_with fail
        go_meet
        case rel => exact ⟨by rw [HB.out], _, rfl⟩
    case rest =>
      obtain ⟨rfl, n1, rfl⟩ := hcut
      go_wp2_with (go_quiet (fail))
      go_ret2
      exact ⟨rfl, Qt.bl (by simp only [Qt, World.drewN_drewN]; exact ⟨_, rfl⟩)⟩

set_option maxRecDepth 100000 in
set_option maxHeartbeats 2000000 in
theorem mailOf_one (l m : List UInt8) (hl : l.length ≤ 9223372036854775807) (HM : Hid (mailBody l = m)) (hb : 1 < m.length) (hc : ((m[1].toNat : Int) == 32) = true) (w : World) :
    Calls Tryd.prog 11 #[.string ⟨l.toArray⟩] w fun e w' => e = MailM m ∧ Bl w w' := by
  have hM : MailM m = MailS m 1 mailForm1 := by
    have h1 : isOne m = true := by
      revert hc
      match m, hb with
      | x :: c :: t, _ => exact id
    unfold MailM
    rw [h1]; rfl
  rw [hM]
  have hb' : (1 : Int) < (m.length : Int) := by omega
  have hml : m.length ≤ 9223372036854775807 := by have := mailBody_len l; rw [HM.out] at this; omega
  clear hM
  go_enter Tryd.func11, Tryd.ntmps11
  go_upto_region 1 with fail
  go_cut [18] (fun s18 wx => s18 = .bool (preB l) ∧ Qt w wx)
  case first =>
    by_cases h5 : 5 < l.length
    · cases hF : Form (l.take 5) mailHead
      all_goals
        have hB : preB l = Form (l.take 5) mailHead := by simp [preB, h5]
        rw [hF] at hB
        have HB := Lib.hid hB
        have hF5 : Form (List.take 5 l) [97, 97, 97, 44, 32] = _ := hF
        have i5 : (5 : Int) ≤ l.length := by omega
        clear hF hB
        go_wp2_with (go_at_call 25; refine (form_c _ _ (by simp <;> omega) _).mono ?_; rintro e w' ⟨rfl, n, rfl⟩)
        go_meet
        case rel => exact ⟨by rw [HB.out], _, rfl⟩
    · have HB := Lib.hid (show preB l = false by simp [preB, h5])
      go_wp2_with fail
      go_meet
      case rel => exact ⟨by rw [HB.out], Qt.refl _⟩
  case rest =>
    obtain ⟨rfl, n0, rfl⟩ := hcut
    go_upto_if 18 with fail
    go_cut [0] (fun s0 wx => s0 = .string ⟨m.toArray⟩ ∧ Qt w wx)
    case first =>
      cases hB : preB l
      · have HB := Lib.hid (show m = l by rw [← HM.out]; unfold mailBody; rw [if_neg (by simpa [preB] using hB)])
        clear hB
        go_wp2_with fail
        go_meet
        case rel => exact ⟨by rw [HB.out], _, rfl⟩
      · have hB' : 5 < l.length ∧ Form (l.take 5) mailHead = true := by simpa [preB] using hB
        have HB := Lib.hid (show m = l.drop 5 by rw [← HM.out];  unfold mailBody; rw [if_pos hB'])
        have i5 : (5 : Int) ≤ l.length := by omega
        have i6 : 5 ≤ l.length := by omega
        clear hB hB'
        go_wp2_with fail
        go_meet
        case rel => exact ⟨by rw [HB.out], _, rfl⟩
    case rest =>
      obtain ⟨rfl, n1, rfl⟩ := hcut
      by_cases h20 : m.length < 20
      · have i20 : (m.length : Int) < 20 := by omega
        go_wp2_with (go_quiet (fail))
        go_ret2
        exact ⟨by unfold MailS; rw [if_pos (Or.inl h20)]; rfl, Qt.bl (by simp only [Qt, World.drewN_drewN]; exact ⟨_, rfl⟩)⟩
      have i20 : ¬ (m.length : Int) < 20 := by omega
      have i20' : (20 : Int) ≤ m.length := by omega
      have j20' : 20 ≤ m.length := by omega
      cases hF : Form (m.take 20) mailForm1
      · have HF := Lib.hid hF
        have hF' : Form (List.take 20 m) [100, 32, 97, 97, 97, 32, 100, 100, 100, 100, 32, 100, 100, 58, 100, 100, 58, 100, 100, 32] = false := hF
        clear hF
        go_wp2_with (go_quiet ((go_at_call 25; (first | exact quiet_qt (form_c _ _ (by simp <;> omega) _) | exact quiet_qt2 (form_c _ _ (by simp <;> omega) _)))))
        go_ret2
        exact ⟨by unfold MailS; rw [if_pos (Or.inr HF.out)]; rfl, Qt.bl (by simp only [Qt, World.drewN_drewN]; exact ⟨_, rfl⟩)⟩
      have HF := Lib.hid hF
      have hF' : Form (List.take 20 m) [100, 32, 97, 97, 97, 32, 100, 100, 100, 100, 32, 100, 100, 58, 100, 100, 58, 100, 100, 32] = true := hF
      clear hF
      go_wp2_with (go_quiet ((go_at_call 25; (first | exact quiet_qt (form_c _ _ (by simp <;> omega) _) | exact quiet_qt2 (form_c _ _ (by simp <;> omega) _)))))
      obtain ⟨f1, f2, f3, f4, f5⟩ := mail_facts1 m j20' HF.out
      have b1 := Num_4 _ f2 (by simp; omega)
      have b2 := Num_2 _ f1 (by simp; omega)
      simp only [Nat.reduceAdd] at f1 f2 f3 f4 f5 b1 b2
      have hN0 : Nms ((w.drewN (n1 + nq)).alloc (Obj.cells #[Value.string { data := #[74, 97, 110] }, Value.string { data := #[70, 101, 98] }, Value.string { data := #[77, 97, 114] }, Value.string { data := #[65, 112, 114] }, Value.string { data := #[77, 97, 121] }, Value.string { data := #[74, 117, 110] }, Value.string { data := #[74, 117, 108] }, Value.string { data := #[65, 117, 103] }, Value.string { data := #[83, 101, 112] }, Value.string { data := #[79, 99, 116] }, Value.string { data := #[78, 111, 118] }, Value.string { data := #[68, 101, 99] }] 9)) w.heap.size := by
        exact Nms_new _ _ _ (by simp)
      go_loopw [5, 7] (fun s5 s7 wr => ∃ (k : Nat) (mi : Int), k ≤ 12 ∧ Hid (mi = monK ((m.drop 2).take 3) k) ∧ 0 ≤ mi ∧ mi ≤ 12 ∧ s5 = .int .i64 mi ∧ s7 = .int .i64 k ∧ Nms wr w.heap.size ∧ Bl w wr) (fun _ s7 _ => 12 - (intOf s7).toNat)
      case atStart => exact ⟨0, 0, by omega, Lib.hid (monK_0 _).symm, by omega, by omega, rfl, rfl, hN0, ((Bl.refl _).drewN _).alloc _⟩
      case round =>
        obtain ⟨k, mi, hk, HK, hm0, hm1, rfl, rfl, hN, hBl⟩ := hrel
        by_cases hlt : k < 12
        · have hc := hN k hlt
          obtain ⟨nk, hnk⟩ : ∃ nk, nk = monL (k + 1) := ⟨_, rfl⟩
          rw [← hnk] at hc
          have HN := Lib.hid hnk
          clear hnk hN0
          have hk0 : (0 : Int) ≤ (k : Int) := by omega
          have hk1 : (k : Int) < 12 := by omega
          have q1 : (2 : Int) ≤ m.length := by omega
          have q2 : (5 : Int) ≤ m.length := by omega
          have q3 : 5 ≤ m.length := by omega
          go_wp2_with (go_quiet (fail))
          all_goals
            go_roundw
            case rel => exact ⟨k + 1, _, by omega, Lib.hid (by first | exact (monK_yes _ k hlt (by rw [← HN.out]; exact eq_of_beq (by assumption))).symm | (rw [HK.out]; exact (monK_no _ k hlt (by rw [← HN.out]; exact ne_of_beq_false (by assumption))).symm)), by omega, by omega, rfl, by go_num, hN.drewN _, hBl.drewN _⟩
            case measure => simp [intOf]; omega
        · have hk1 : ¬ (k : Int) < 12 := by omega
          obtain rfl : k = 12 := by omega
          have HK2 : Hid (mi = monIx ((m.drop 2).take 3)) := Lib.hid (HK.out.trans (monK_12 _))
          clear hN0 hN HK hk hlt
          have q1 : (1 : Int) ≤ m.length := by omega
          have q5 : (6 : Int) ≤ m.length := by omega
          have q9 : (10 : Int) ≤ m.length := by omega
          have q10 : (11 : Int) ≤ m.length := by omega
          have q18 : (19 : Int) ≤ m.length := by omega
          have q19 : (20 : Int) ≤ m.length := by omega
          have r1 : 1 ≤ m.length := by omega
          have r9 : 10 ≤ m.length := by omega
          have r18 : 19 ≤ m.length := by omega
          have hp3 : Form (List.drop 20 m) [43, 100, 100, 100, 100] = Form (List.drop 20 m) plusMail := rfl
          have hm3 : Form (List.drop 20 m) [45, 100, 100, 100, 100] = Form (List.drop 20 m) minusMail := rfl
          by_cases hz : Form (m.drop 20) plusMail = true ∨ Form (m.drop 20) minusMail = true
          · have HZ := Lib.hid (show MailZ (m.drop 20) = (MZV (m.drop 20), MZB (m.drop 20)) from if_pos hz)
            obtain ⟨g1, g2⟩ : digs (((m.drop 20).drop 1).take 2) ∧ digs ((m.drop 20).drop 3) := hz.elim (fun h => zone_mail _ _ (Or.inl rfl) h) (fun h => zone_mail _ _ (Or.inr rfl) h)
            have hl5 : (m.drop 20).length = 5 := hz.elim (fun h => Form_length h) (fun h => Form_length h)
            have zb := Lib.hid (mz_bd _ g1 g2 hl5)
            have hng : (m.drop 20 == [71, 77, 84]) = false := beq_false_of_ne (fun h => by rw [h] at hl5; cases hl5)
            have hnu : (m.drop 20 == [85, 84]) = false := beq_false_of_ne (fun h => by rw [h] at hl5; cases hl5)
            simp only [List.length_drop] at hl5
            have s0 : 0 < m.length - 20 := by omega
            have s3 : 3 ≤ m.length - 20 := by omega
            have t0 : (0 : Int) < ((m.length - 20 : Nat) : Int) := by omega
            have t3 : (3 : Int) ≤ ((m.length - 20 : Nat) : Int) := by omega
            have l5 : 20 < m.length := by omega
            have z5 : m.length ≤ 20 + 5 := by omega
            have z6 : 20 + 5 ≤ m.length := by omega
            clear hl5
            simp only [List.drop_drop, Nat.reduceAdd] at g1 g2
            have hZV := Lib.hid (show MZV (m.drop 20) = ZV (m[20]'l5).toNat (Num (List.take 2 (List.drop 21 m))) (Num (List.drop 23 m)) by simp [MZV, show m[20]? = some (m[20]'l5) from List.getElem?_eq_getElem _])
            have hZB := Lib.hid (show MZB (m.drop 20) = (decide (Num (List.take 2 (List.drop 21 m)) ≤ 23) && decide (Num (List.drop 23 m) ≤ 59)) by simp [MZB])
            have hb := u8_lt (m[20]'l5)
            cases hp : Form (m.drop 20) plusMail
            all_goals
              have hm' : Form (m.drop 20) plusMail = true ∨ Form (m.drop 20) minusMail = true := hz
              rw [hp] at hp3 hm'
              simp only [Bool.false_eq_true, false_or, true_or] at hm'
              try rw [hm'] at hm3
              clear hz hp hm'
              cases hb2 : MZB (m.drop 20)
              all_goals
                have HB := Lib.hid hb2
                rw [hZB.out] at hb2
                try (have zb' := zb.out HB.out; rw [hZV.out] at zb')
                cases h0 : (mi == 0)
                all_goals
                  have H0 := Lib.hid h0
                  go_wp2_with (first | (go_at_call 25; refine (form_c _ _ (by simp <;> omega) _).mono ?_; rintro e w' ⟨rfl, n, rfl⟩) | (go_quiet ((first | (go_at_call 26; (first | exact quiet_eq (zoneOf_c _ _ _ (by omega) (by omega) (by assumption) (by assumption) (by simp <;> omega) (by simp <;> omega) _) | exact quiet_eq2 (zoneOf_c _ _ _ (by omega) (by omega) (by assumption) (by assumption) (by simp <;> omega) (by simp <;> omega) _))) | (go_at_call 28; (first | exact quiet_eq (number_c _ (by assumption) (by simp <;> omega) _) | exact quiet_eq2 (number_c _ (by assumption) (by simp <;> omega) _))) | (go_at_call 27; (first | exact quiet_qt (timeOf_i _ _ _ _ _ (by omega) (by omega) (by omega) (by omega) (by omega) (by omega) (by omega) (by omega) (by simp <;> omega) (by assumption) (by assumption) (by assumption) _) | exact quiet_qt2 (timeOf_i _ _ _ _ _ (by omega) (by omega) (by omega) (by omega) (by omega) (by omega) (by omega) (by omega) (by simp <;> omega) (by assumption) (by assumption) (by assumption) _)))))))
                  go_ret2
                  refine ⟨?_, by repeat (first | exact Bl.refl _ | assumption | refine Bl.drewN ?_ _)⟩
                  first
                    | exact (MailS_bad h20 HF.out (Or.inl (by rw [HZ.out]; exact HB.out))).symm
                    | exact (MailS_bad h20 HF.out (Or.inr (by rw [← HK2.out]; exact eq_of_beq H0.out))).symm
                    | (rw [MailS_good h20 HF.out (by rw [HZ.out, ← HK2.out]; rintro (h | h); exact absurd (HB.out.symm.trans h) (by simp); exact ne_of_beq_false H0.out h) (MZV (m.drop 20)) (by rw [HZ.out]), hZV.out, ← HK2.out]; rfl)
          · have HZ := Lib.hid (show MailZ (m.drop 20) = (0, m.drop 20 == [71, 77, 84] || m.drop 20 == [85, 84]) from if_neg hz)
            have hz1 : Form (m.drop 20) plusMail = false := by rw [Bool.eq_false_iff]; exact fun h => hz (Or.inl h)
            have hz2 : Form (m.drop 20) minusMail = false := by rw [Bool.eq_false_iff]; exact fun h => hz (Or.inr h)
            rw [hz1] at hp3
            rw [hz2] at hm3
            clear hz hz1 hz2
            cases hg : (m.drop 20 == [71, 77, 84])
            all_goals
              cases hu : (m.drop 20 == [85, 84])
              all_goals
                have HZ2 := Lib.hid (show (MailZ (m.drop 20)).2 = _ by rw [HZ.out, hg, hu])
                cases h0 : (mi == 0)
                all_goals
                  have H0 := Lib.hid h0
                  go_wp2_with (first | (go_at_call 25; refine (form_c _ _ (by simp <;> omega) _).mono ?_; rintro e w' ⟨rfl, n, rfl⟩) | (go_quiet ((first | (go_at_call 26; (first | exact quiet_eq (zoneOf_c _ _ _ (by omega) (by omega) (by assumption) (by assumption) (by simp <;> omega) (by simp <;> omega) _) | exact quiet_eq2 (zoneOf_c _ _ _ (by omega) (by omega) (by assumption) (by assumption) (by simp <;> omega) (by simp <;> omega) _))) | (go_at_call 28; (first | exact quiet_eq (number_c _ (by assumption) (by simp <;> omega) _) | exact quiet_eq2 (number_c _ (by assumption) (by simp <;> omega) _))) | (go_at_call 27; (first | exact quiet_qt (timeOf_i _ _ _ _ _ (by omega) (by omega) (by omega) (by omega) (by omega) (by omega) (by omega) (by omega) (by simp <;> omega) (by assumption) (by assumption) (by assumption) _) | exact quiet_qt2 (timeOf_i _ _ _ _ _ (by omega) (by omega) (by omega) (by omega) (by omega) (by omega) (by omega) (by omega) (by simp <;> omega) (by assumption) (by assumption) (by assumption) _)))))))
                  go_ret2
                  refine ⟨?_, by repeat (first | exact Bl.refl _ | assumption | refine Bl.drewN ?_ _)⟩
                  first
                    | exact (MailS_bad h20 HF.out (Or.inl HZ2.out)).symm
                    | exact (MailS_bad h20 HF.out (Or.inr (by rw [← HK2.out]; exact eq_of_beq H0.out))).symm
                    | (rw [MailS_good h20 HF.out (by rw [HZ2.out, ← HK2.out]; rintro (h | h); exact absurd h (by simp); exact ne_of_beq_false H0.out h) 0 (by rw [HZ.out]), ← HK2.out]; rfl)

set_option maxRecDepth 100000 in
set_option maxHeartbeats 2000000 in
theorem mailOf_two (l m : List UInt8) (hl : l.length ≤ 9223372036854775807) (HM : Hid (mailBody l = m)) (hb : 1 < m.length) (hc : ((m[1].toNat : Int) == 32) = false) (w : World) :
    Calls Tryd.prog 11 #[.string ⟨l.toArray⟩] w fun e w' => e = MailM m ∧ Bl w w' := by
  have hM : MailM m = MailS m 2 mailForm2 := by
    have h1 : isOne m = false := by
      revert hc
      match m, hb with
      | x :: c :: t, _ => exact id
    unfold MailM
    rw [h1]; rfl
  rw [hM]
  have hb' : (1 : Int) < (m.length : Int) := by omega
  have hml : m.length ≤ 9223372036854775807 := by have := mailBody_len l; rw [HM.out] at this; omega
  clear hM
  go_enter Tryd.func11, Tryd.ntmps11
  go_upto_region 1 with fail
  go_cut [18] (fun s18 wx => s18 = .bool (preB l) ∧ Qt w wx)
  case first =>
    by_cases h5 : 5 < l.length
    · cases hF : Form (l.take 5) mailHead
      all_goals
        have hB : preB l = Form (l.take 5) mailHead := by simp [preB, h5]
        rw [hF] at hB
        have HB := Lib.hid hB
        have hF5 : Form (List.take 5 l) [97, 97, 97, 44, 32] = _ := hF
        have i5 : (5 : Int) ≤ l.length := by omega
        clear hF hB
        go_wp2_with (go_at_call 25; refine (form_c _ _ (by simp <;> omega) _).mono ?_; rintro e w' ⟨rfl, n, rfl⟩)
        go_meet
        case rel => exact ⟨by rw [HB.out], _, rfl⟩
    · have HB := Lib.hid (show preB l = false by simp [preB, h5])
      go_wp2_with fail
      go_meet
      case rel => exact ⟨by rw [HB.out], Qt.refl _⟩
  case rest =>
    obtain ⟨rfl, n0, rfl⟩ := hcut
    go_upto_if 18 with fail
    go_cut [0] (fun s0 wx => s0 = .string ⟨m.toArray⟩ ∧ Qt w wx)
    case first =>
      cases hB : preB l
      · have HB := Lib.hid (show m = l by rw [← HM.out]; unfold mailBody; rw [if_neg (by simpa [preB] using hB)])
        clear hB
        go_wp2_with fail
        go_meet
        case rel => exact ⟨by rw [HB.out], _, rfl⟩
      · have hB' : 5 < l.length ∧ Form (l.take 5) mailHead = true := by simpa [preB] using hB
        have HB := Lib.hid (show m = l.drop 5 by rw [← HM.out];  unfold mailBody; rw [if_pos hB'])
        have i5 : (5 : Int) ≤ l.length := by omega
        have i6 : 5 ≤ l.length := by omega
        clear hB hB'
        go_wp2_with fail
        go_meet
        case rel => exact ⟨by rw [HB.out], _, rfl⟩
    case rest =>
      obtain ⟨rfl, n1, rfl⟩ := hcut
      by_cases h20 : m.length < 21
      · have i20 : (m.length : Int) < 21 := by omega
        go_wp2_with (go_quiet (fail))
        go_ret2
        exact ⟨by unfold MailS; rw [if_pos (Or.inl h20)]; rfl, Qt.bl (by simp only [Qt, World.drewN_drewN]; exact ⟨_, rfl⟩)⟩
      have i20 : ¬ (m.length : Int) < 21 := by omega
      have i20' : (21 : Int) ≤ m.length := by omega
      have j20' : 21 ≤ m.length := by omega
      cases hF : Form (m.take 21) mailForm2
      · have HF := Lib.hid hF
        have hF' : Form (List.take 21 m) [100, 100, 32, 97, 97, 97, 32, 100, 100, 100, 100, 32, 100, 100, 58, 100, 100, 58, 100, 100, 32] = false := hF
        clear hF
        go_wp2_with (go_quiet ((go_at_call 25; (first | exact quiet_qt (form_c _ _ (by simp <;> omega) _) | exact quiet_qt2 (form_c _ _ (by simp <;> omega) _)))))
        go_ret2
        exact ⟨by unfold MailS; rw [if_pos (Or.inr HF.out)]; rfl, Qt.bl (by simp only [Qt, World.drewN_drewN]; exact ⟨_, rfl⟩)⟩
      have HF := Lib.hid hF
      have hF' : Form (List.take 21 m) [100, 100, 32, 97, 97, 97, 32, 100, 100, 100, 100, 32, 100, 100, 58, 100, 100, 58, 100, 100, 32] = true := hF
      clear hF
      go_wp2_with (go_quiet ((go_at_call 25; (first | exact quiet_qt (form_c _ _ (by simp <;> omega) _) | exact quiet_qt2 (form_c _ _ (by simp <;> omega) _)))))
      obtain ⟨f1, f2, f3, f4, f5⟩ := mail_facts2 m j20' HF.out
      have b1 := Num_4 _ f2 (by simp; omega)
      have b2 := Num_2 _ f1 (by simp; omega)
      simp only [Nat.reduceAdd] at f1 f2 f3 f4 f5 b1 b2
      have hN0 : Nms ((w.drewN (n1 + nq)).alloc (Obj.cells #[Value.string { data := #[74, 97, 110] }, Value.string { data := #[70, 101, 98] }, Value.string { data := #[77, 97, 114] }, Value.string { data := #[65, 112, 114] }, Value.string { data := #[77, 97, 121] }, Value.string { data := #[74, 117, 110] }, Value.string { data := #[74, 117, 108] }, Value.string { data := #[65, 117, 103] }, Value.string { data := #[83, 101, 112] }, Value.string { data := #[79, 99, 116] }, Value.string { data := #[78, 111, 118] }, Value.string { data := #[68, 101, 99] }] 9)) w.heap.size := by
        exact Nms_new _ _ _ (by simp)
      go_loopw [5, 7] (fun s5 s7 wr => ∃ (k : Nat) (mi : Int), k ≤ 12 ∧ Hid (mi = monK ((m.drop 3).take 3) k) ∧ 0 ≤ mi ∧ mi ≤ 12 ∧ s5 = .int .i64 mi ∧ s7 = .int .i64 k ∧ Nms wr w.heap.size ∧ Bl w wr) (fun _ s7 _ => 12 - (intOf s7).toNat)
      case atStart => exact ⟨0, 0, by omega, Lib.hid (monK_0 _).symm, by omega, by omega, rfl, rfl, hN0, ((Bl.refl _).drewN _).alloc _⟩
      case round =>
        obtain ⟨k, mi, hk, HK, hm0, hm1, rfl, rfl, hN, hBl⟩ := hrel
        by_cases hlt : k < 12
        · have hc := hN k hlt
          obtain ⟨nk, hnk⟩ : ∃ nk, nk = monL (k + 1) := ⟨_, rfl⟩
          rw [← hnk] at hc
          have HN := Lib.hid hnk
          clear hnk hN0
          have hk0 : (0 : Int) ≤ (k : Int) := by omega
          have hk1 : (k : Int) < 12 := by omega
          have q1 : (3 : Int) ≤ m.length := by omega
          have q2 : (6 : Int) ≤ m.length := by omega
          have q3 : 6 ≤ m.length := by omega
          go_wp2_with (go_quiet (fail))
          all_goals
            go_roundw
            case rel => exact ⟨k + 1, _, by omega, Lib.hid (by first | exact (monK_yes _ k hlt (by rw [← HN.out]; exact eq_of_beq (by assumption))).symm | (rw [HK.out]; exact (monK_no _ k hlt (by rw [← HN.out]; exact ne_of_beq_false (by assumption))).symm)), by omega, by omega, rfl, by go_num, hN.drewN _, hBl.drewN _⟩
            case measure => simp [intOf]; omega
        · have hk1 : ¬ (k : Int) < 12 := by omega
          obtain rfl : k = 12 := by omega
          have HK2 : Hid (mi = monIx ((m.drop 3).take 3)) := Lib.hid (HK.out.trans (monK_12 _))
          clear hN0 hN HK hk hlt
          have q1 : (2 : Int) ≤ m.length := by omega
          have q5 : (7 : Int) ≤ m.length := by omega
          have q9 : (11 : Int) ≤ m.length := by omega
          have q10 : (12 : Int) ≤ m.length := by omega
          have q18 : (20 : Int) ≤ m.length := by omega
          have q19 : (21 : Int) ≤ m.length := by omega
          have r1 : 2 ≤ m.length := by omega
          have r9 : 11 ≤ m.length := by omega
          have r18 : 20 ≤ m.length := by omega
          have hp3 : Form (List.drop 21 m) [43, 100, 100, 100, 100] = Form (List.drop 21 m) plusMail := rfl
          have hm3 : Form (List.drop 21 m) [45, 100, 100, 100, 100] = Form (List.drop 21 m) minusMail := rfl
          by_cases hz : Form (m.drop 21) plusMail = true ∨ Form (m.drop 21) minusMail = true
          · have HZ := Lib.hid (show MailZ (m.drop 21) = (MZV (m.drop 21), MZB (m.drop 21)) from if_pos hz)
            obtain ⟨g1, g2⟩ : digs (((m.drop 21).drop 1).take 2) ∧ digs ((m.drop 21).drop 3) := hz.elim (fun h => zone_mail _ _ (Or.inl rfl) h) (fun h => zone_mail _ _ (Or.inr rfl) h)
            have hl5 : (m.drop 21).length = 5 := hz.elim (fun h => Form_length h) (fun h => Form_length h)
            have zb := Lib.hid (mz_bd _ g1 g2 hl5)
            have hng : (m.drop 21 == [71, 77, 84]) = false := beq_false_of_ne (fun h => by rw [h] at hl5; cases hl5)
            have hnu : (m.drop 21 == [85, 84]) = false := beq_false_of_ne (fun h => by rw [h] at hl5; cases hl5)
            simp only [List.length_drop] at hl5
            have s0 : 0 < m.length - 21 := by omega
            have s3 : 3 ≤ m.length - 21 := by omega
            have t0 : (0 : Int) < ((m.length - 21 : Nat) : Int) := by omega
            have t3 : (3 : Int) ≤ ((m.length - 21 : Nat) : Int) := by omega
            have l5 : 21 < m.length := by omega
            have z5 : m.length ≤ 21 + 5 := by omega
            have z6 : 21 + 5 ≤ m.length := by omega
            clear hl5
            simp only [List.drop_drop, Nat.reduceAdd] at g1 g2
            have hZV := Lib.hid (show MZV (m.drop 21) = ZV (m[21]'l5).toNat (Num (List.take 2 (List.drop 22 m))) (Num (List.drop 24 m)) by simp [MZV, show m[21]? = some (m[21]'l5) from List.getElem?_eq_getElem _])
            have hZB := Lib.hid (show MZB (m.drop 21) = (decide (Num (List.take 2 (List.drop 22 m)) ≤ 23) && decide (Num (List.drop 24 m) ≤ 59)) by simp [MZB])
            have hb := u8_lt (m[21]'l5)
            cases hp : Form (m.drop 21) plusMail
            all_goals
              have hm' : Form (m.drop 21) plusMail = true ∨ Form (m.drop 21) minusMail = true := hz
              rw [hp] at hp3 hm'
              simp only [Bool.false_eq_true, false_or, true_or] at hm'
              try rw [hm'] at hm3
              clear hz hp hm'
              cases hb2 : MZB (m.drop 21)
              all_goals
                have HB := Lib.hid hb2
                rw [hZB.out] at hb2
                try (have zb' := zb.out HB.out; rw [hZV.out] at zb')
                cases h0 : (mi == 0)
                all_goals
                  have H0 := Lib.hid h0
                  go_wp2_with (first | (go_at_call 25; refine (form_c _ _ (by simp <;> omega) _).mono ?_; rintro e w' ⟨rfl, n, rfl⟩) | (go_quiet ((first | (go_at_call 26; (first | exact quiet_eq (zoneOf_c _ _ _ (by omega) (by omega) (by assumption) (by assumption) (by simp <;> omega) (by simp <;> omega) _) | exact quiet_eq2 (zoneOf_c _ _ _ (by omega) (by omega) (by assumption) (by assumption) (by simp <;> omega) (by simp <;> omega) _))) | (go_at_call 28; (first | exact quiet_eq (number_c _ (by assumption) (by simp <;> omega) _) | exact quiet_eq2 (number_c _ (by assumption) (by simp <;> omega) _))) | (go_at_call 27; (first | exact quiet_qt (timeOf_i _ _ _ _ _ (by omega) (by omega) (by omega) (by omega) (by omega) (by omega) (by omega) (by omega) (by simp <;> omega) (by assumption) (by assumption) (by assumption) _) | exact quiet_qt2 (timeOf_i _ _ _ _ _ (by omega) (by omega) (by omega) (by omega) (by omega) (by omega) (by omega) (by omega) (by simp <;> omega) (by assumption) (by assumption) (by assumption) _)))))))
                  go_ret2
                  refine ⟨?_, by repeat (first | exact Bl.refl _ | assumption | refine Bl.drewN ?_ _)⟩
                  first
                    | exact (MailS_bad h20 HF.out (Or.inl (by rw [HZ.out]; exact HB.out))).symm
                    | exact (MailS_bad h20 HF.out (Or.inr (by rw [← HK2.out]; exact eq_of_beq H0.out))).symm
                    | (rw [MailS_good h20 HF.out (by rw [HZ.out, ← HK2.out]; rintro (h | h); exact absurd (HB.out.symm.trans h) (by simp); exact ne_of_beq_false H0.out h) (MZV (m.drop 21)) (by rw [HZ.out]), hZV.out, ← HK2.out]; rfl)
          · have HZ := Lib.hid (show MailZ (m.drop 21) = (0, m.drop 21 == [71, 77, 84] || m.drop 21 == [85, 84]) from if_neg hz)
            have hz1 : Form (m.drop 21) plusMail = false := by rw [Bool.eq_false_iff]; exact fun h => hz (Or.inl h)
            have hz2 : Form (m.drop 21) minusMail = false := by rw [Bool.eq_false_iff]; exact fun h => hz (Or.inr h)
            rw [hz1] at hp3
            rw [hz2] at hm3
            clear hz hz1 hz2
            cases hg : (m.drop 21 == [71, 77, 84])
            all_goals
              cases hu : (m.drop 21 == [85, 84])
              all_goals
                have HZ2 := Lib.hid (show (MailZ (m.drop 21)).2 = _ by rw [HZ.out, hg, hu])
                cases h0 : (mi == 0)
                all_goals
                  have H0 := Lib.hid h0
                  go_wp2_with (first | (go_at_call 25; refine (form_c _ _ (by simp <;> omega) _).mono ?_; rintro e w' ⟨rfl, n, rfl⟩) | (go_quiet ((first | (go_at_call 26; (first | exact quiet_eq (zoneOf_c _ _ _ (by omega) (by omega) (by assumption) (by assumption) (by simp <;> omega) (by simp <;> omega) _) | exact quiet_eq2 (zoneOf_c _ _ _ (by omega) (by omega) (by assumption) (by assumption) (by simp <;> omega) (by simp <;> omega) _))) | (go_at_call 28; (first | exact quiet_eq (number_c _ (by assumption) (by simp <;> omega) _) | exact quiet_eq2 (number_c _ (by assumption) (by simp <;> omega) _))) | (go_at_call 27; (first | exact quiet_qt (timeOf_i _ _ _ _ _ (by omega) (by omega) (by omega) (by omega) (by omega) (by omega) (by omega) (by omega) (by simp <;> omega) (by assumption) (by assumption) (by assumption) _) | exact quiet_qt2 (timeOf_i _ _ _ _ _ (by omega) (by omega) (by omega) (by omega) (by omega) (by omega) (by omega) (by omega) (by simp <;> omega) (by assumption) (by assumption) (by assumption) _)))))))
                  go_ret2
                  refine ⟨?_, by repeat (first | exact Bl.refl _ | assumption | refine Bl.drewN ?_ _)⟩
                  first
                    | exact (MailS_bad h20 HF.out (Or.inl HZ2.out)).symm
                    | exact (MailS_bad h20 HF.out (Or.inr (by rw [← HK2.out]; exact eq_of_beq H0.out))).symm
                    | (rw [MailS_good h20 HF.out (by rw [HZ2.out, ← HK2.out]; rintro (h | h); exact absurd h (by simp); exact ne_of_beq_false H0.out h) 0 (by rw [HZ.out]), ← HK2.out]; rfl)
end Go.Proofs.YtkmndlnhpegdgaaDoor

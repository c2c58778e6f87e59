/- Shelves: the reference: long texts, the order of texts, the order of entries, words in a row, the scheme, safe links. · Shelves: the reference: does a text, an entry stand ahead; words in a row; sources; what an element may have. -/
import Derived.Test.YtamdlihgecpbkaaGreatDoorGrpP
import Derived.Test.YtamdlihgecpbkaaGreatDoorGrpF
import Derived.Test.YtamdlihgecpbkaaGreatDoorGrpD
import Derived.Test.YtamdlihgecpbkaaGreatDoorGrpM
import Derived.Test.YtamdlihgecpbkaaGreatDoorGrpQ
set_option maxRecDepth 100000
set_option maxHeartbeats 4000000
namespace Go.Proofs.YtamdlihgecpbkaaGreatDoor
open Go.RowKit
theorem isLongR_c (s : List UInt8) (w : World) : Calls Tryz.prog 27 #[.string ⟨s.toArray⟩] w fun e w' => e = .returned (.bool (decide (3000 < s.length))) ∧ w = w' := by
 have HD := Lib.hid (show decide (3000 < s.length) = decide ((3000 : Int) < (s.length : Int)) by rw [decide_eq_decide]; omega); go_enter Tryz.func27, Tryz.ntmps27; go_wp2; go_ret; exact ⟨ret_bool (by rw [HD.out]), rfl⟩
def schG : Nat → List UInt8 → Nat
 | _, [] => 0
 | i, c :: r => if c = 58 then i else if okU i c = true then schG (i + 1) r else 0
def okF : Nat → List UInt8 → Bool
 | _, [] => true
 | i, c :: r => okU i c && okF (i + 1) r
theorem okF_iff (l : List UInt8) : ∀ i, okF i l = true ↔ ∀ j (h : j < l.length), okU (i + j) l[j] = true := by
 induction l with
 | nil => intro i; simp [okF]
 | cons c r ih =>
   intro i; rw [okF, Bool.and_eq_true, ih]; constructor
   · rintro ⟨h1, h2⟩ j hj; cases j with
     | zero => exact h1
     | succ j =>
       have := h2 j (by simpa using hj); rw [show i + 1 + j = i + (j + 1) by omega] at this; exact this
   · intro h; refine ⟨h 0 (by simp), fun j hj => ?_⟩; have := h (j + 1) (by simpa using hj); rw [show i + (j + 1) = i + 1 + j by omega] at this; exact this
theorem okF_us (l : List UInt8) : okF 0 l = okUs l := by
 rw [Bool.eq_iff_iff, okF_iff, okUs_iff]; simp only [Nat.zero_add]
theorem stop_ok {c : UInt8} (h : stopU c = true) (h58 : c ≠ 58) (i : Nat) : okU i c = false := by
 have n58 : c.toNat ≠ 58 := fun e => h58 ((c58 c).2 e)
 unfold stopU at h; simp only [Bool.or_eq_true, decide_eq_true_eq] at h; rw [Bool.eq_false_iff]; intro ho; unfold okU ltr lwr at ho; simp only [Bool.or_eq_true, Bool.and_eq_true, decide_eq_true_eq] at ho; omega
theorem schG_eq (r : List UInt8) : ∀ i, schG i r = match r.findIdx? stopU with
 | none => 0
 | some k => if r[k]? = some 58 ∧ okF i (r.take k) = true then i + k else 0 := by
 induction r with
 | nil => intro i; rfl
 | cons c r ih =>
   intro i; rw [schG, List.findIdx?_cons]; cases hs : stopU c with
   | true =>
     by_cases h58 : c = 58
     · simp [h58, okF]
     · have ho := stop_ok hs h58 i; simp [h58, ho]
   | false =>
     have h58 : c ≠ 58 := by rintro rfl; exact absurd hs (by decide)
     rw [if_neg h58, ih (i + 1)]; cases hf : r.findIdx? stopU with
     | none => simp
     | some k =>
       simp only [Bool.false_eq_true, if_false, Option.map_some, List.getElem?_cons_succ, List.take_succ_cons, okF, Bool.and_eq_true]; by_cases ho : okU i c = true
       · rw [if_pos ho]; by_cases hb : r[k]? = some 58 ∧ okF (i + 1) (r.take k) = true
         · rw [if_pos hb, if_pos ⟨hb.1, ho, hb.2⟩]; omega
         · rw [if_neg hb, if_neg (fun h => hb ⟨h.1, h.2.2⟩)]
       · rw [if_neg ho, if_neg (fun h => ho h.2.1)]
theorem schG_sch (s : List UInt8) : schG 0 s = schU s := by
 rw [schG_eq]; unfold schU; cases s.findIdx? stopU with
 | none => rfl
 | some k =>
   simp only [okF_us, Nat.zero_add]
theorem fld_58 (c : UInt8) : fld c = 58 ↔ c = 58 := by
 have h := fld_nat c; rw [c58, c58]; by_cases hu : 65 ≤ c.toNat ∧ c.toNat ≤ 90
 · rw [if_pos hu] at h; omega
 · rw [if_neg hu] at h; omega
theorem okU_fld (i : Nat) (c : UInt8) : okU i (fld c) = okU i c := by
 rw [Bool.eq_iff_iff, okU_iff, okU_iff]; have h := fld_nat c; have h2 := fld_nat (fld c); have : (fld (fld c)).toNat = (fld c).toNat := by
  rw [h2, if_neg]; by_cases hu : 65 ≤ c.toNat ∧ c.toNat ≤ 90
  · rw [if_pos hu] at h; omega
  · rw [if_neg hu] at h; omega
 rw [this]
theorem schG_fold (s : List UInt8) : ∀ i, schG i (fold s) = schG i s := by
 induction s with
 | nil => intro i; rfl
 | cons c s ih =>
   intro i; show schG i (fld c :: fold s) = _; rw [schG, schG, okU_fld, ih]; simp only [fld_58]
theorem isU_ref (s : List UInt8) : isU s = (decide (fold ((s.filter fun c => decide (32 < c.toNat)).take (schG 0 (s.filter fun c => decide (32 < c.toNat)))) = sHttp) || decide (fold ((s.filter fun c => decide (32 < c.toNat)).take (schG 0 (s.filter fun c => decide (32 < c.toNat)))) = sHttps) || decide (fold ((s.filter fun c => decide (32 < c.toNat)).take (schG 0 (s.filter fun c => decide (32 < c.toNat)))) = sMail)) := by
 have e : prU (shrU s) = fold ((s.filter fun c => decide (32 < c.toNat)).take (schG 0 (s.filter fun c => decide (32 < c.toNat)))) := by
  unfold prU shrU; rw [← schG_sch, schG_fold]; unfold fold; rw [List.map_take]
 unfold isU; rw [e]
theorem schG_le (s : List UInt8) : schG 0 s ≤ s.length := by rw [schG_sch]; exact schU_le s
theorem okU_no {c : UInt8} (hl : ltr c = false) (k : Nat) : okU k c = true ↔ k ≠ 0 ∧ ((48 ≤ c.toNat ∧ c.toNat ≤ 57) ∨ c.toNat = 43 ∨ c.toNat = 45 ∨ c.toNat = 46) := by
 unfold okU; simp only [hl, Bool.false_or, Bool.and_eq_true, Bool.or_eq_true, decide_eq_true_eq]; omega
theorem schemeOf_c (s : List UInt8) (hs : s.length ≤ 1000000) (w : World) :
 Calls Tryz.prog 61 #[.string ⟨s.toArray⟩] w fun e w' => e = .returned (.int .i64 (schG 0 s : Nat)) ∧ w = w' := by
 go_enter Tryz.func61, Tryz.ntmps61; go_wp2; go_loop [3] (fun i => ∃ k : Nat, k ≤ s.length ∧ i = .int .i64 k ∧ Hid (schG 0 s = schG k (s.drop k))) (fun i => s.length - (intOf i).toNat); case atStart => exact ⟨0, Nat.zero_le _, rfl, Lib.hid rfl⟩
 case round =>
  obtain ⟨k, hk, rfl, HP⟩ := hrel; by_cases hlt : k < s.length
  · have HD := Lib.hid (List.drop_eq_getElem_cons hlt); have hc := u8_lt s[k]; have LC := Lib.hid (fun W => isLetter_c s[k] W); have BC := Lib.hid (fun W => between_c (s[k].toNat : Int) 48 57 W); by_cases h58 : s[k].toNat = 58
    · have HE := Lib.hid (show schG 0 s = k from by rw [HP.out, HD.out, schG, if_pos ((c58 _).2 h58)]); have z1 : (s[k].toNat : Int) = 58 := by omega
      have z2 : ((s[k].toNat : Int) == 58) = true := by simp [z1]
      clear h58; go_wp2; go_ret; exact ⟨ret_int (by rw [HE.out]), rfl⟩
    · have n58 : ¬ (s[k].toNat : Int) = 58 := by omega
      have n58' : ((s[k].toNat : Int) == 58) = false := by simpa using n58
      have HS := Lib.hid (show schG 0 s = if okU k s[k] = true then schG (k + 1) (s.drop (k + 1)) else 0 from by rw [HP.out, HD.out, schG, if_neg (fun e => h58 ((c58 _).1 e))]); clear h58; cases hl : ltr s[k]
      · rw [hl] at LC; have HO := Lib.hid (okU_no hl k); by_cases hk0 : k = 0
        · subst hk0; have HZ := Lib.hid (show okU 0 s[0] = false from by rw [Bool.eq_false_iff]; intro h; exact (HO.out.1 h).1 rfl); clear hl; go_wp2_with (go_at_call 95; (with_reducible refine (LC.out _).mono ?_); rintro e w2 ⟨rfl, rfl⟩); go_ret; exact ⟨ret_int (by rw [HS.out, HZ.out]; rfl), rfl⟩
        · have z0 : (0 : Int) < (k : Int) := by omega
          clear hl; by_cases hd : 48 ≤ s[k].toNat ∧ s[k].toNat ≤ 57
          · rw [show (decide ((48 : Int) ≤ (s[k].toNat : Int)) && decide ((s[k].toNat : Int) ≤ 57)) = true by simp; omega] at BC; have HY := Lib.hid (HO.out.2 ⟨hk0, .inl hd⟩); clear hd; go_wp2_with (first | (go_at_call 95; (with_reducible refine (LC.out _).mono ?_); rintro e w2 ⟨rfl, rfl⟩) | (go_at_call 28; (with_reducible refine (BC.out _).mono ?_); rintro e w2 ⟨rfl, rfl⟩)); go_round; case rel => exact ⟨k + 1, by omega, by go_num, Lib.hid (by rw [HS.out, if_pos HY.out])⟩
            case measure => simp [intOf]; omega
          · rw [show (decide ((48 : Int) ≤ (s[k].toNat : Int)) && decide ((s[k].toNat : Int) ≤ 57)) = false by simp; omega] at BC; have hk0' := Lib.hid hk0; by_cases h43 : s[k].toNat = 43
            · have HA := Lib.hid h43; have y43' : ((s[k].toNat : Int) == 43) = true := by rw [beq_iff_eq]; omega
              clear h43; have HY := Lib.hid (HO.out.2 ⟨hk0, .inr (.inl HA.out)⟩); clear hd; go_wp2_with (first | (go_at_call 95; (with_reducible refine (LC.out _).mono ?_); rintro e w2 ⟨rfl, rfl⟩) | (go_at_call 28; (with_reducible refine (BC.out _).mono ?_); rintro e w2 ⟨rfl, rfl⟩)); go_round; case rel => exact ⟨k + 1, by omega, by go_num, Lib.hid (by rw [HS.out, if_pos HY.out])⟩
              case measure => simp [intOf]; omega
            · have y43 : ¬ (s[k].toNat : Int) = 43 := by omega
              have y43' : ((s[k].toNat : Int) == 43) = false := by simpa using y43
              by_cases h45 : s[k].toNat = 45
              · have HA := Lib.hid h45; have y45' : ((s[k].toNat : Int) == 45) = true := by rw [beq_iff_eq]; omega
                clear h45; have HY := Lib.hid (HO.out.2 ⟨hk0, .inr (.inr (.inl HA.out))⟩); clear hd; go_wp2_with (first | (go_at_call 95; (with_reducible refine (LC.out _).mono ?_); rintro e w2 ⟨rfl, rfl⟩) | (go_at_call 28; (with_reducible refine (BC.out _).mono ?_); rintro e w2 ⟨rfl, rfl⟩)); go_round; case rel => exact ⟨k + 1, by omega, by go_num, Lib.hid (by rw [HS.out, if_pos HY.out])⟩
                case measure => simp [intOf]; omega
              · have y45 : ¬ (s[k].toNat : Int) = 45 := by omega
                have y45' : ((s[k].toNat : Int) == 45) = false := by simpa using y45
                by_cases h46 : s[k].toNat = 46
                · have HA := Lib.hid h46; have y46' : ((s[k].toNat : Int) == 46) = true := by rw [beq_iff_eq]; omega
                  clear h46; have HY := Lib.hid (HO.out.2 ⟨hk0, .inr (.inr (.inr HA.out))⟩); clear hd; go_wp2_with (first | (go_at_call 95; (with_reducible refine (LC.out _).mono ?_); rintro e w2 ⟨rfl, rfl⟩) | (go_at_call 28; (with_reducible refine (BC.out _).mono ?_); rintro e w2 ⟨rfl, rfl⟩)); go_round; case rel => exact ⟨k + 1, by omega, by go_num, Lib.hid (by rw [HS.out, if_pos HY.out])⟩
                  case measure => simp [intOf]; omega
                · have y46 : ¬ (s[k].toNat : Int) = 46 := by omega
                  have y46' : ((s[k].toNat : Int) == 46) = false := by simpa using y46
                  have HN := Lib.hid (show okU k s[k] = false from by rw [Bool.eq_false_iff]; intro h; have := (HO.out.1 h).2; omega); clear hd h43 h45 h46; go_wp2_with (first | (go_at_call 95; (with_reducible refine (LC.out _).mono ?_); rintro e w2 ⟨rfl, rfl⟩) | (go_at_call 28; (with_reducible refine (BC.out _).mono ?_); rintro e w2 ⟨rfl, rfl⟩)); go_ret; exact ⟨ret_int (by rw [HS.out, HN.out]; rfl), rfl⟩
      · rw [hl] at LC; have HO := Lib.hid (show okU k s[k] = true from by unfold okU; rw [hl]; rfl); clear hl; go_wp2_with (go_at_call 95; (with_reducible refine (LC.out _).mono ?_); rintro e w2 ⟨rfl, rfl⟩); go_round; case rel => exact ⟨k + 1, by omega, by go_num, Lib.hid (by rw [HS.out, if_pos HO.out])⟩
        case measure => simp [intOf]; omega
  · have HE := Lib.hid (show schG 0 s = 0 from by rw [HP.out, List.drop_eq_nil_of_le (by omega)]; rfl); go_wp2; go_ret; exact ⟨ret_int (by rw [HE.out]; rfl), rfl⟩
theorem isSafe_c (s : List UInt8) (hs : s.length ≤ 1000000) (w : World) :
 Calls Tryz.prog 29 #[.string ⟨s.toArray⟩] w fun e w' => e = .returned (.bool (isU s)) ∧ Bl w w' := by
 have HR := Lib.hid (isU_ref s); obtain ⟨T, hT⟩ : ∃ T, T = s.filter fun c => decide (32 < c.toNat) := ⟨_, rfl⟩
 have hTl : T.length ≤ 1000000 := by rw [hT]; exact Nat.le_trans (List.length_filter_le _ _) hs
 rw [← hT] at HR; have HTT := Lib.hid hT; clear hT; have SC := Lib.hid (fun W => schemeOf_c T hTl W); obtain ⟨n, hn⟩ : ∃ n, n = schG 0 T := ⟨_, rfl⟩; have hnl : n ≤ T.length := by rw [hn]; exact schG_le T
 rw [← hn] at SC HR; clear hn; have FC := Lib.hid (fun W => foldOf_c (T.take n) (by rw [List.length_take]; omega) W); obtain ⟨F, hF⟩ : ∃ F, F = fold (T.take n) := ⟨_, rfl⟩; rw [← hF] at FC HR; clear hF; go_enter Tryz.func29, Tryz.ntmps29; go_wp2; go_loop [3, 4] (fun o i => ∃ k : Nat, k ≤ s.length ∧ o = .string ⟨((s.take k).filter fun c => decide (32 < c.toNat)).toArray⟩ ∧ i = .int .i64 k) (fun _ i => s.length - (intOf i).toNat); case atStart => exact ⟨0, Nat.zero_le _, rfl, rfl⟩
 case round =>
  obtain ⟨k, hk, rfl, rfl⟩ := hrel; by_cases hlt : k < s.length
  · have hb := u8_lt s[k]; have HT := Lib.hid (take_snoc s k hlt); have hlt1 : k + 1 ≤ s.length := by omega
    have hlt2 : (k : Int) + 1 ≤ s.length := by omega
    have hp : ((s.take k).filter fun c => decide (32 < c.toNat)).length ≤ 1000000 := Nat.le_trans (List.length_filter_le _ _) (by rw [List.length_take]; omega); by_cases h32 : 32 < s[k].toNat
    · have z1 : (32 : Int) < (s[k].toNat : Int) := by omega
      have HZ := Lib.hid h32; clear h32; go_wp2; go_round; case rel => exact ⟨k + 1, by omega, by rw [HT.out, List.filter_append]; simp [HZ.out, take_one s k hlt], by go_num⟩
      case measure => simp [intOf]; omega
    · have z1 : ¬ (32 : Int) < (s[k].toNat : Int) := by omega
      have HZ := Lib.hid h32; clear h32; go_wp2; go_round; case rel => exact ⟨k + 1, by omega, by rw [HT.out, List.filter_append]; simp [HZ.out], by go_num⟩
      case measure => simp [intOf]; omega
  · rw [show s.take k = s from List.take_of_length_le (by omega), ← HTT.out]; by_cases h1 : F = sHttp
    · have HZ := Lib.hid h1; have z1 : (F == sHttp) = true := by simpa using h1
      clear h1; unfold sHttp at z1; go_wp2_with (first | (go_at_call 61; (with_reducible refine (SC.out _).mono ?_); rintro e w2 ⟨rfl, rfl⟩) | (go_at_call 37; (with_reducible refine (FC.out _).mono ?_); rintro e w2 ⟨rfl, hb2⟩)); go_ret; exact ⟨ret_bool (by rw [HR.out]; simp [HZ.out]), hb2⟩
    · have HZ := Lib.hid h1; have z1 : (F == sHttp) = false := by simpa using h1
      clear h1; unfold sHttp at z1; by_cases h2 : F = sHttps
      · have HY := Lib.hid h2; have z2 : (F == sHttps) = true := by simpa using h2
        clear h2; unfold sHttps at z2; go_wp2_with (first | (go_at_call 61; (with_reducible refine (SC.out _).mono ?_); rintro e w2 ⟨rfl, rfl⟩) | (go_at_call 37; (with_reducible refine (FC.out _).mono ?_); rintro e w2 ⟨rfl, hb2⟩)); go_ret; exact ⟨ret_bool (by rw [HR.out]; simp [HY.out]), hb2⟩
      · have HY := Lib.hid h2; have z2 : (F == sHttps) = false := by simpa using h2
        clear h2; unfold sHttps at z2; by_cases h3 : F = sMail
        · have HX := Lib.hid h3; have z3 : (F == sMail) = true := by simpa using h3
          clear h3; unfold sMail at z3; go_wp2_with (first | (go_at_call 61; (with_reducible refine (SC.out _).mono ?_); rintro e w2 ⟨rfl, rfl⟩) | (go_at_call 37; (with_reducible refine (FC.out _).mono ?_); rintro e w2 ⟨rfl, hb2⟩)); go_ret; exact ⟨ret_bool (by rw [HR.out]; simp [HX.out]), hb2⟩
        · have HX := Lib.hid h3; have z3 : (F == sMail) = false := by simpa using h3
          clear h3; unfold sMail at z3; go_wp2_with (first | (go_at_call 61; (with_reducible refine (SC.out _).mono ?_); rintro e w2 ⟨rfl, rfl⟩) | (go_at_call 37; (with_reducible refine (FC.out _).mono ?_); rintro e w2 ⟨rfl, hb2⟩)); go_ret; exact ⟨ret_bool (by rw [HR.out]; simp [HX.out, HY.out, HZ.out]), hb2⟩
theorem less_nil (a : List UInt8) : Op.bytesLess a [] = false := by cases a <;> simp [Op.bytesLess]
theorem less_some {b : List UInt8} (h : b ≠ []) : Op.bytesLess [] b = true := by cases b with | nil => exact absurd rfl h | cons c r => simp [Op.bytesLess]
theorem textLess_c (a b : List UInt8) (ha : a.length ≤ 1099511627776) (_hb : b.length ≤ 1099511627776) (w : World) :
 Calls Tryz.prog 33 #[.string ⟨a.toArray⟩, .string ⟨b.toArray⟩] w fun e w' => e = .returned (.bool (Op.bytesLess a b)) ∧ Qt w w' := by
 go_enter Tryz.func33, Tryz.ntmps33; go_wp2; go_loopw [5] (fun i wr => ∃ k : Nat, k ≤ a.length ∧ k ≤ b.length ∧ i = .int .i64 k ∧ Hid (Op.bytesLess a b = Op.bytesLess (a.drop k) (b.drop k)) ∧ Qt w wr) (fun i _ => a.length - (intOf i).toNat); case atStart => exact ⟨0, Nat.zero_le _, Nat.zero_le _, rfl, Lib.hid rfl, Qt.refl _⟩
 case round =>
  obtain ⟨k, hk, hk2, rfl, HP, hq⟩ := hrel; by_cases hlt : k < a.length
  · by_cases hlb : k < b.length
    · have hlb' : (k : Int) < (b.length : Int) := by omega
      have HA := Lib.hid (List.drop_eq_getElem_cons hlt); have HB := Lib.hid (List.drop_eq_getElem_cons hlb); have ca := u8_lt a[k]; have cb := u8_lt b[k]; by_cases he : a[k] = b[k]
      · have hz : ((a[k].toNat : Int) != (b[k].toNat : Int)) = false := by simp [he]
        have HE := Lib.hid (show Op.bytesLess a b = Op.bytesLess (a.drop (k + 1)) (b.drop (k + 1)) from by rw [HP.out, HA.out, HB.out, Op.bytesLess, he]; simp); clear he; go_wp2_with (go_quiet (fail)); go_roundw; case rel => exact ⟨k + 1, by omega, by omega, by go_num, HE, (by repeat (first | exact hq | refine Qt.drewN ?_ _))⟩
        case measure => simp [intOf]; omega
      · have hn : ¬ (a[k].toNat : Int) = (b[k].toNat : Int) := fun e => he (UInt8.toNat_inj.1 (by omega))
        have hz : ((a[k].toNat : Int) != (b[k].toNat : Int)) = true := by simpa using hn
        have HE := Lib.hid (show Op.bytesLess a b = decide (a[k].toNat < b[k].toNat) from by
         rw [HP.out, HA.out, HB.out, Op.bytesLess, Bool.eq_iff_iff]; simp only [Bool.or_eq_true, Bool.and_eq_true, decide_eq_true_eq, beq_iff_eq, he, false_and, or_false, UInt8.lt_iff_toNat_lt])
        clear he; go_wp2_with (go_quiet (fail)); go_ret; exact ⟨ret_bool (by rw [HE.out]), (by repeat (first | exact hq | refine Qt.drewN ?_ _))⟩
    · have hlb' : ¬ (k : Int) < (b.length : Int) := by omega
      have HE := Lib.hid (show Op.bytesLess a b = decide (a.length < b.length) from by
       rw [HP.out, List.drop_eq_nil_of_le (by omega : b.length ≤ k), less_nil]; symm; rw [decide_eq_false_iff_not]; omega)
      go_wp2; go_ret; exact ⟨ret_bool (by rw [HE.out]), hq⟩
  · have HE := Lib.hid (show Op.bytesLess a b = decide (a.length < b.length) from by
     rw [HP.out, List.drop_eq_nil_of_le (by omega : a.length ≤ k)]; by_cases hb0 : k < b.length
     · rw [less_some (by intro e; have := congrArg List.length e; simp at this; omega)]; symm; rw [decide_eq_true_iff]; omega
     · rw [List.drop_eq_nil_of_le (by omega : b.length ≤ k), less_nil]; symm; rw [decide_eq_false_iff_not]; omega)
    go_wp2; go_ret; exact ⟨ret_bool (by rw [HE.out]), hq⟩
theorem isAheadG_c (a b : Ent) (ha : (eI a).length ≤ 1099511627776) (hb : (eI b).length ≤ 1099511627776) (w : World) :
 Calls Tryz.prog 32 #[enV a, enV b] w fun e w' => e = .returned (.bool (ahB a b)) ∧ ∃ n x y, w' = ((w.alloc x).alloc y).drewN n := by
 have TC := Lib.hid (fun W => textLess_c (eI a) (eI b) ha hb W); unfold enV; by_cases h1 : eA b < eA a
 · have HE := Lib.hid (show ahB a b = true from by unfold ahB; simp [h1]); go_enter Tryz.func32, Tryz.ntmps32; go_wp2; all_goals
    go_ret; first | exact ⟨ret_bool (by rw [HE.out]), 0, _, _, rfl⟩ | exact ⟨ret_bool (by rw [HE.out]), n, _, _, rfl⟩
 · by_cases h2 : eA a = eA b
   · have HE := Lib.hid (show ahB a b = Op.bytesLess (eI a) (eI b) from by unfold ahB; simp [h2]); have h2' : (eA a == eA b) = true := by simpa using h2
     have HH := Lib.hid h2; clear h2; go_enter Tryz.func32, Tryz.ntmps32; go_wp2_with (go_at_call 33; (with_reducible refine (TC.out _).mono ?_); rintro e w2 ⟨rfl, n, rfl⟩); all_goals
      go_ret; first | exact ⟨ret_bool (by rw [HE.out]), 0, _, _, rfl⟩ | exact ⟨ret_bool (by rw [HE.out]), n, _, _, rfl⟩
   · have HE := Lib.hid (show ahB a b = false from by unfold ahB; simp [h1, h2]); have h2' : (eA a == eA b) = false := by simpa using h2
     have HH := Lib.hid h2; clear h2; go_enter Tryz.func32, Tryz.ntmps32; go_wp2; all_goals
      go_ret; first | exact ⟨ret_bool (by rw [HE.out]), 0, _, _, rfl⟩ | exact ⟨ret_bool (by rw [HE.out]), n, _, _, rfl⟩
theorem inWords_c (l : List Nm) (v : Value) (i : Nm) (hl : l.length ≤ 1099511627776) (w : World) (hA : StS w v l) :
 Calls Tryz.prog 66 #[.string ⟨i.toArray⟩, v] w fun e w' => e = .returned (.bool (l.contains i)) ∧ w = w' := by
 obtain ⟨ao, cap, rfl, hcap, hA⟩ := hA; go_enter Tryz.func66, Tryz.ntmps66; go_wp2; go_loopw [5] (fun j wr => ∃ k : Nat, k ≤ l.length ∧ j = .int .i64 k ∧ Hid (∀ j (h : j < l.length), j < k → l[j] ≠ i) ∧ w = wr) (fun j _ => l.length - (intOf j).toNat); case atStart => exact ⟨0, Nat.zero_le _, rfl, Lib.hid (fun j _ h => by omega), rfl⟩
 case round =>
  obtain ⟨k, hk, rfl, HP, rfl⟩ := hrel; by_cases hlt : k < l.length
  · obtain ⟨g, o, rfl, hg, h1⟩ := hA k hlt; clear hA; by_cases he : l[k] = i
    · have HE := Lib.hid (show l.contains i = true from by rw [List.contains_iff_mem]; exact he ▸ List.getElem_mem hlt); have hne : (l[k] == i) = true := by simp [he]
      clear he; go_wp2; go_ret; exact ⟨ret_bool (by rw [HE.out]), rfl⟩
    · have HE := Lib.hid he; have hne : (l[k] == i) = false := by simpa using he
      clear he; go_wp2; go_roundw; case rel =>
       refine ⟨k + 1, by omega, by go_num, Lib.hid (fun j hj hjk => ?_), by trivial⟩; by_cases e : j = k
       · subst e; exact HE.out
       · exact HP.out j hj (by omega)
      case measure => simp [intOf]; omega
  · have HE := Lib.hid (show l.contains i = false from by
     rw [Bool.eq_false_iff, ne_eq, List.contains_iff_mem]; intro h; obtain ⟨j, hj, e⟩ := List.getElem_of_mem h; exact HP.out j hj (by omega) e)
    clear hA; go_wp2; go_ret; exact ⟨ret_bool (by rw [HE.out]), rfl⟩
theorem hasSrcR_c (l : List Atr) (v : Value) (hl : l.length ≤ 1099511627776) (w : World) (hA : AtS w v l) :
 Calls Tryz.prog 97 #[v] w fun e w' => e = .returned (.bool (hasS l)) ∧ w = w' := by
 obtain ⟨ao, cap, rfl, hA⟩ := hA; go_enter Tryz.func97, Tryz.ntmps97; go_wp2; go_loopw [3] (fun j wr => ∃ k : Nat, k ≤ l.length ∧ j = .int .i64 k ∧ Hid (∀ j (h : j < l.length), j < k → l[j].1 ≠ sSrc) ∧ w = wr) (fun j _ => l.length - (intOf j).toNat); case atStart => exact ⟨0, Nat.zero_le _, rfl, Lib.hid (fun j _ h => by omega), rfl⟩
 case round =>
  obtain ⟨k, hk, rfl, HP, rfl⟩ := hrel; by_cases hlt : k < l.length
  · obtain ⟨g, o, rfl, hg, h1, -⟩ := hA k hlt; clear hA; by_cases he : l[k].1 = sSrc
    · have HE := Lib.hid (show hasS l = true from by unfold hasS; rw [List.any_eq_true]; exact ⟨l[k], List.getElem_mem hlt, by simpa using he⟩); have hne : (l[k].1 == [115, 114, 99]) = true := by simpa [sSrc] using he
      clear he; go_wp2; go_ret; exact ⟨ret_bool (by rw [HE.out]), rfl⟩
    · have HE := Lib.hid he; have hne : (l[k].1 == [115, 114, 99]) = false := by simpa [sSrc] using he
      clear he; go_wp2; go_roundw; case rel =>
       refine ⟨k + 1, by omega, by go_num, Lib.hid (fun j hj hjk => ?_), by trivial⟩; by_cases e : j = k
       · subst e; exact HE.out
       · exact HP.out j hj (by omega)
      case measure => simp [intOf]; omega
  · have HE := Lib.hid (show hasS l = false from by
     unfold hasS; rw [List.any_eq_false]; intro x hx; obtain ⟨j, hj, rfl⟩ := List.getElem_of_mem hx; have := HP.out j hj (by omega); simpa using this)
    clear hA; go_wp2; go_ret; exact ⟨ret_bool (by rw [HE.out]), rfl⟩
theorem allowedR_c (n : Nm) (w : World) : Calls Tryz.prog 96 #[.string ⟨n.toArray⟩] w fun e w' => e = .returned (.bool (alwN n)) ∧ Bl w w' := by
 have CC := Lib.hid (fun W (h : StS W (.slice (some ⟨w.heap.size, 0, none⟩) 14 14) alwL) => inWords_c alwL _ n (by decide) W h); have HS := Lib.hid (sts_new w alwL 9 14 (by decide)); go_enter Tryz.func96, Tryz.ntmps96; go_wp2_with (go_at_call 66; (with_reducible refine (CC.out _ HS.out).mono ?_); rintro e w' ⟨rfl, rfl⟩); go_ret; exact ⟨ret_bool (by unfold alwN; simp), (Bl.refl _).alloc _⟩
theorem mayHaveR_c (e n : Nm) (w : World) : Calls Tryz.prog 98 #[.string ⟨e.toArray⟩, .string ⟨n.toArray⟩] w fun x w' => x = .returned (.bool (mayA e n)) ∧ w = w' := by
 go_enter Tryz.func98, Tryz.ntmps98; go_wp2; all_goals (go_ret; exact ⟨ret_bool (by rw [Bool.eq_iff_iff]; simp_all [mayA, sA, sImg, sHref, sTitle, sSrc, sAlt] <;> exact decide_eq_true_iff.symm), rfl⟩)
end Go.Proofs.YtamdlihgecpbkaaGreatDoor

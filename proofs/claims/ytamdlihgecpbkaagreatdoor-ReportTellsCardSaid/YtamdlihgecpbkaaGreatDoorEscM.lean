/- Signs that are taken: signAt and TakeOf of the reference. -/
import Derived.Test.YtamdlihgecpbkaaGreatDoorGrpE
set_option maxRecDepth 100000
set_option maxHeartbeats 4000000
namespace Go.Proofs.YtamdlihgecpbkaaGreatDoor
open Go.RowKit
def sgR (t : List UInt8) : List UInt8 × Nat × Bool := if (sgn t).2.1 = 0 then ([], 0, false) else sgn t
theorem sgR_named {t x : List UInt8} {n : Nat} (h : nmd t = (x, n)) (hn : 0 < n) : sgR t = (x, n, true) := by
 have e : sgn t = (x, n, true) := by unfold sgn; rw [h, if_pos hn]
 unfold sgR; rw [e, if_neg (by simp; omega)]
theorem sgR_none {t : List UInt8} (h : (nmd t).2 = 0) (hn : (nbr t).2 = 0) : sgR t = ([], 0, false) := by
 have e : sgn t = ([38], 0, false) := by unfold sgn; rw [if_neg (by omega), if_pos hn]
 unfold sgR; rw [e, if_pos rfl]
theorem sgR_bad {t : List UInt8} (h : (nmd t).2 = 0) (hn : (nbr t).2 ≠ 0) (hs : scl (nbr t).1 = false) : sgR t = ([239, 191, 189], (nbr t).2, false) := by
 have e : sgn t = ([239, 191, 189], (nbr t).2, false) := by unfold sgn; rw [if_neg (by omega), if_neg hn, hs]; rfl
 unfold sgR; rw [e, if_neg hn]
theorem sgR_good {t : List UInt8} (h : (nmd t).2 = 0) (hn : (nbr t).2 ≠ 0) (hs : scl (nbr t).1 = true) : sgR t = (rowL (nbr t).1, (nbr t).2, true) := by
 have e : sgn t = (rowL (nbr t).1, (nbr t).2, true) := by unfold sgn; rw [if_neg (by omega), if_neg hn, hs]; rfl
 unfold sgR; rw [e, if_neg hn]
theorem nmd_zero {t : List UInt8} (h1 : pre nAmp t = false) (h2 : pre nLt t = false) (h3 : pre nGt t = false) (h4 : pre nQuot t = false) (h5 : pre nApos t = false) : (nmd t).2 = 0 := by
 simp [nmd, h1, h2, h3, h4, h5]
def sgV (r : List UInt8 × Nat × Bool) : Value := .tuple #[.string ⟨r.1.toArray⟩, .int .i64 r.2.1, .bool r.2.2]
theorem dig_at (b : Int) (r : List UInt8) (k : Nat) (h : k < ndg b r) (hk : k < r.length) : dig b r[k] = true := by
 have := ndg_all b r; rw [List.all_eq_true] at this; refine this _ ?_; rw [List.mem_take_iff_getElem]; exact ⟨k, by omega, rfl⟩
theorem dig_end (b : Int) (r : List UInt8) (h : ndg b r < r.length) : dig b r[ndg b r] = false := by
 unfold ndg at h ⊢; induction r with
 | nil => simp at h
 | cons c r ih =>
   cases hc : dig b c
   · simp [hc]
   · simp only [List.takeWhile_cons, hc, if_true, List.length_cons, List.getElem_cons_succ] at h ⊢; exact ih (by omega)
theorem signAt10 (s : List UInt8) (at' : Nat) (hs : s.length ≤ 1099511627776) (ha : at' ≤ s.length) (w : World)
 (n1 : pre nAmp (s.drop at') = false) (n2 : pre nLt (s.drop at') = false) (n3 : pre nGt (s.drop at') = false) (n4 : pre nQuot (s.drop at') = false) (n5 : pre nApos (s.drop at') = false)
 (n6 : pre [38, 35] (s.drop at') = true) (n7 : pre [38, 35, 120] (s.drop at') = false) :
 Calls Tryz.prog 137 #[.string ⟨s.toArray⟩, .int .i64 (at' : Int)] w fun e w' => e = .returned (sgV (sgR (s.drop at'))) ∧ Bl w w' := by
 have SC := Lib.hid (fun p W hp => startsAt_c s p at' (by omega) hp ha W); have HZ := Lib.hid (nmd_zero n1 n2 n3 n4 n5); have HN := Lib.hid (show nbr (s.drop at') = nbF 10 2 7 ((s.drop at').drop 2) by unfold nbr; rw [n7, n6]; rfl); have hpl := pre_len n6; simp only [List.length_cons, List.length_nil, List.length_drop] at hpl; unfold nAmp at n1; unfold nLt at n2; unfold nGt at n3; unfold nQuot at n4; unfold nApos at n5; obtain ⟨r, hr⟩ : ∃ r, r = (s.drop at').drop 2 := ⟨_, rfl⟩; have hrl : r.length = s.length - at' - 2 := by rw [hr]; simp; omega
 have hri : ∀ k (h : at' + 2 + k < s.length) (h' : k < r.length), r[k] = s[at' + 2 + k] := by
  intro k h h'; simp only [hr, List.getElem_drop]; congr 1; omega
 rw [← hr] at HN; have hdl := ndg_le 10 r; obtain ⟨d, hd⟩ : ∃ d, d = ndg 10 r := ⟨_, rfl⟩; have hat := dig_at 10 r; have hend : ∀ h : d < r.length, dig 10 (r[d]'h) = false := by
  subst hd; exact dig_end 10 r
 have hall := ndg_all 10 r; rw [← hd] at hdl hat hall; have HAT := Lib.hid hat; have HEND := Lib.hid hend; have HALL := Lib.hid hall; have HD := Lib.hid hd; have HRI := Lib.hid hri; have HRL := Lib.hid hrl; have hb1 : at' + 2 + d ≤ s.length := by omega
 have hb2 : at' + 2 ≤ s.length := by omega
 clear hat hend hall hd hri hr; go_enter Tryz.func137, Tryz.ntmps137; go_wp2_with (go_at_call 69; refine (SC.out _ _ (by simp)).mono ?_; rintro e w' ⟨rfl, rfl⟩); go_loop [10, 11] (fun nv tv => ∃ k : Nat, k ≤ d ∧ k ≤ 7 + 1 ∧ tv = .int .i64 ((at' : Int) + 2 + (k : Int)) ∧ nv = .int .i64 (Nv 10 (r.take k))) (fun _ tv => at' + 2 + 7 + 2 - (intOf tv).toNat); case atStart => exact ⟨0, by omega, by omega, congrArg (Value.int .i64) (by simp), rfl⟩
 case round =>
  obtain ⟨k, hk, hkm, rfl, rfl⟩ := hrel; have hrl2 := HRL.out; have htn : ((at' : Int) + 2 + (k : Int)).toNat = at' + 2 + k := by omega
  have hnn : (0 : Int) ≤ (at' : Int) + 2 + (k : Int) := by omega
  have hsub : (at' : Int) + 2 + (k : Int) - ((at' : Int) + 2) = k := by omega
  have hall : (r.take k).all (dig 10) = true := by
   rw [List.all_eq_true]; intro c hc'; refine List.all_eq_true.1 HALL.out c ?_; rw [List.mem_take_iff_getElem] at hc' ⊢; obtain ⟨j, hj, rfl⟩ := hc'; exact ⟨j, by omega, rfl⟩
  by_cases hgo : k < d ∧ k < 7 + 1
  · obtain ⟨hkd, hkm2⟩ := hgo; have hkr : k < r.length := by omega
    have hks : at' + 2 + k < s.length := by omega
    have hks' : (at' : Int) + 2 + (k : Int) < (s.length : Int) := by omega
    have hc : (s[at' + 2 + k].toNat : Int) < 256 := by have := u8_lt s[at' + 2 + k]; omega
    have hdg := HAT.out k hkd hkr; rw [HRI.out k hks hkr] at hdg; have hdg2 : 0 ≤ Dg s[at' + 2 + k].toNat 10 := by simpa [dig] using hdg
    have hlt := Dg_lt s[at' + 2 + k].toNat 10 (by omega); have hbd := Nv_bd 10 (by omega) (r.take k) hall (by simp; omega); have hm : (k : Int) ≤ 7 := by omega
    have HT := Lib.hid (take_snoc r k hkr); have HS := Lib.hid (Nv_snoc 10 (r.take k) r[k]); have HI := Lib.hid (HRI.out k hks hkr); clear hdg hall; go_wp2_with (go_at_call 170; refine (digit_c _ _ (by omega) (by omega) _).mono ?_; rintro e w' ⟨rfl, rfl⟩); go_round; case rel => exact ⟨k + 1, by omega, by omega, congrArg (Value.int .i64) (by omega), congrArg (Value.int .i64) (by rw [HT.out, HS.out, HI.out])⟩
    case measure => simp [intOf]; omega
  · by_cases hkd : k < d
    · -- more digits than may be
      have hk8 : k = 7 + 1 := by omega
      have hkr : k < r.length := by omega
      have hks : at' + 2 + k < s.length := by omega
      have hks' : (at' : Int) + 2 + (k : Int) < (s.length : Int) := by omega
      have hc : (s[at' + 2 + k].toNat : Int) < 256 := by have := u8_lt s[at' + 2 + k]; omega
      have hdg := HAT.out k hkd hkr; rw [HRI.out k hks hkr] at hdg; have hdg2 : 0 ≤ Dg s[at' + 2 + k].toNat 10 := by simpa [dig] using hdg
      have hnone : (nbr (s.drop at')).2 = 0 := by
       rw [HN.out]; unfold nbF; rw [if_pos]; simp only [nbB, ← HD.out, Bool.or_eq_true, decide_eq_true_eq]; exact Or.inl (Or.inr (by omega))
      have HR := Lib.hid (sgR_none HZ.out hnone); have hm : ¬ (k : Int) ≤ 7 := by omega
      have hm2 : (7 : Int) < (k : Int) := by omega
      clear hdg hall hnone hgo hk8; go_wp2_with (go_at_call 170; refine (digit_c _ _ (by omega) (by omega) _).mono ?_; rintro e w' ⟨rfl, rfl⟩); all_goals
       go_ret3
       exact ⟨by rw [HR.out]; rfl, Bl.refl _⟩
    · have hkd2 : k = d := by omega
      have HDK := Lib.hid (show k = ndg 10 r from hkd2.trans HD.out); have hend : ∀ h : k < r.length, dig 10 (r[k]'h) = false := by subst hkd2; exact HEND.out
      clear hgo hkd hkd2 HAT HEND HALL HD hk hb1; by_cases hin : at' + 2 + k < s.length
      · have hks' : (at' : Int) + 2 + (k : Int) < (s.length : Int) := by omega
        have hkr : k < r.length := by omega
        have hc : (s[at' + 2 + k].toNat : Int) < 256 := by have := u8_lt s[at' + 2 + k]; omega
        have hdg := hend hkr; rw [HRI.out k hin hkr] at hdg; have hdg2 : ¬ 0 ≤ Dg s[at' + 2 + k].toNat 10 := by simpa [dig] using hdg
        have hget : r[k]? = some s[at' + 2 + k] := by rw [List.getElem?_eq_getElem hkr, HRI.out k hin hkr]
        have HG := Lib.hid hget; clear hend hdg hget; cases hx : ((s[at' + 2 + k].toNat : Int) != 59)
        · have h59 : s[at' + 2 + k] = 59 := by
           simp only [bne_eq_false_iff_eq] at hx; exact UInt8.toNat_inj.1 (by rw [show (59 : UInt8).toNat = 59 from rfl]; omega)
          by_cases hz : k = 0 ∨ 7 < k
          · have hnone : (nbr (s.drop at')).2 = 0 := by
             rw [HN.out]; unfold nbF; rw [if_pos]; simp only [nbB, ← HDK.out, Bool.or_eq_true, decide_eq_true_eq]; exact Or.inl hz
            have HR := Lib.hid (sgR_none HZ.out hnone); clear hnone h59 hall; rcases hz with hz | hz
            · have hz1 : ((k : Int) == 0) = true := by simp [hz]
              have hz2 : ((at' : Int) + 2 + (k : Int) == (at' : Int) + 2) = true := by simp [hz]
              clear hz; go_wp2_with (go_at_call 170; refine (digit_c _ _ (by omega) (by omega) _).mono ?_; rintro e w' ⟨rfl, rfl⟩); all_goals
               go_ret3
               exact ⟨by rw [HR.out]; rfl, Bl.refl _⟩
            · have hz1 : (7 : Int) < (k : Int) := by omega
              go_wp2_with (go_at_call 170; refine (digit_c _ _ (by omega) (by omega) _).mono ?_; rintro e w' ⟨rfl, rfl⟩); all_goals
               go_ret3
               exact ⟨by rw [HR.out]; rfl, Bl.refl _⟩
          · have hgood : nbr (s.drop at') = (Nv 10 (r.take k), 2 + k + 1) := by
             rw [HN.out]; unfold nbF; rw [if_neg, ← HDK.out]; simp only [nbB, ← HDK.out, Bool.or_eq_true, decide_eq_true_eq]; rintro (h | h)
             · exact hz h
             · rw [HG.out, h59] at h; exact h rfl
            have hz1 : ((k : Int) == 0) = false := by simp; omega
            have hz2 : ((at' : Int) + 2 + (k : Int) == (at' : Int) + 2) = false := by simp; omega
            have hz3 : ¬ (7 : Int) < (k : Int) := by omega
            have hz4 : ((at' : Int) + 2 + (k : Int) == (s.length : Int)) = false := by simp; omega
            have hbd := Nv_bd 10 (by omega) (r.take k) hall (by simp; omega); have hlen : (at' : Int) + 2 + (k : Int) + 1 - (at' : Int) = ((2 + k + 1 : Nat) : Int) := by omega
            have HLEN := Lib.hid hlen; have hn2 : (nbr (s.drop at')).2 ≠ 0 := by rw [hgood]; simp
            clear hz h59 hall hlen; obtain ⟨v, hv⟩ : ∃ v, v = Nv 10 (r.take k) := ⟨_, rfl⟩; rw [← hv] at hgood hbd ⊢; cases hsc : scl v
            · have HR := Lib.hid (sgR_bad HZ.out hn2 (by rw [hgood]; exact hsc)); rw [hgood] at HR; have hcase : v = 0 ∨ (55296 ≤ v ∧ v ≤ 57343) ∨ 1114111 < v := by simp [scl] at hsc; omega
              clear hsc hgood hn2 hv; rcases hcase with rfl | ⟨hc1, hc2⟩ | hc1
              · go_wp2_with (first | (go_at_call 170; refine (digit_c _ _ (by omega) (by omega) _).mono ?_; rintro e w' ⟨rfl, rfl⟩) | (go_at_call 28; refine (between_c _ _ _ _).mono ?_; rintro e w' ⟨rfl, rfl⟩))
                go_ret3
                exact ⟨by rw [HR.out, sgV, ← HLEN.out]; rfl, Bl.refl _⟩
              · have hv0 : (v == 0) = false := by simp; omega
                go_wp2_with (first | (go_at_call 170; refine (digit_c _ _ (by omega) (by omega) _).mono ?_; rintro e w' ⟨rfl, rfl⟩) | (go_at_call 28; refine (between_c _ _ _ _).mono ?_; rintro e w' ⟨rfl, rfl⟩))
                go_ret3
                exact ⟨by rw [HR.out, sgV, ← HLEN.out]; rfl, Bl.refl _⟩
              · have hv0 : (v == 0) = false := by simp; omega
                go_wp2_with (first | (go_at_call 170; refine (digit_c _ _ (by omega) (by omega) _).mono ?_; rintro e w' ⟨rfl, rfl⟩) | (go_at_call 28; refine (between_c _ _ _ _).mono ?_; rintro e w' ⟨rfl, rfl⟩)); all_goals
                 go_ret3
                 exact ⟨by rw [HR.out, sgV, ← HLEN.out]; rfl, Bl.refl _⟩
            · have HR := Lib.hid (sgR_good HZ.out hn2 (by rw [hgood]; exact hsc)); rw [hgood] at HR; have hcase : 0 < v ∧ v ≤ 1114111 ∧ (v < 55296 ∨ 57343 < v) := by simp [scl] at hsc; omega
              obtain ⟨hc1, hc2, hc3⟩ := hcase; have RC := Lib.hid (fun W => row_c v hc1 hc2 hc3 W); have hv0 : (v == 0) = false := by simp; omega
              clear hsc hgood hn2 hv; rcases hc3 with hc3 | hc3; all_goals
               go_wp2_with (first | (go_at_call 170; refine (digit_c _ _ (by omega) (by omega) _).mono ?_; rintro e w' ⟨rfl, rfl⟩) | (go_at_call 28; refine (between_c _ _ _ _).mono ?_; rintro e w' ⟨rfl, rfl⟩) | (go_at_call 171; (with_reducible refine (RC.out _).mono ?_); rintro e w' ⟨rfl, hb⟩))
               go_ret3
               exact ⟨by rw [HR.out, sgV, ← HLEN.out]; rfl, hb⟩
        · have hnone : (nbr (s.drop at')).2 = 0 := by
           rw [HN.out]; unfold nbF; rw [if_pos]; simp only [nbB, ← HDK.out, Bool.or_eq_true, decide_eq_true_eq]; refine Or.inr ?_; rw [HG.out]; intro h; rw [Option.some.inj h] at hx; exact absurd hx (by decide)
          have HR := Lib.hid (sgR_none HZ.out hnone); clear hnone hall; go_wp2_with (go_at_call 170; refine (digit_c _ _ (by omega) (by omega) _).mono ?_; rintro e w' ⟨rfl, rfl⟩); all_goals
           go_ret3
           exact ⟨by rw [HR.out]; rfl, Bl.refl _⟩
      · have hks' : ¬ (at' : Int) + 2 + (k : Int) < (s.length : Int) := by omega
        have hnone : (nbr (s.drop at')).2 = 0 := by
         rw [HN.out]; unfold nbF; rw [if_pos]; simp only [nbB, ← HDK.out, Bool.or_eq_true, decide_eq_true_eq]; refine Or.inr ?_; rw [List.getElem?_eq_none (by omega)]; simp
        have HR := Lib.hid (sgR_none HZ.out hnone); have hz4 : ((at' : Int) + 2 + (k : Int) == (s.length : Int)) = true := by
         have : k ≤ r.length := by rw [HDK.out]; exact ndg_le _ _
         simp; omega
        clear hnone hall hend; go_wp2_with (go_at_call 170; refine (digit_c _ _ (by omega) (by omega) _).mono ?_; rintro e w' ⟨rfl, rfl⟩); all_goals
         go_ret3
         exact ⟨by rw [HR.out]; rfl, Bl.refl _⟩
theorem signAt16 (s : List UInt8) (at' : Nat) (hs : s.length ≤ 1099511627776) (ha : at' ≤ s.length) (w : World)
 (n1 : pre nAmp (s.drop at') = false) (n2 : pre nLt (s.drop at') = false) (n3 : pre nGt (s.drop at') = false) (n4 : pre nQuot (s.drop at') = false) (n5 : pre nApos (s.drop at') = false)
 (n6 : pre [38, 35] (s.drop at') = true) (n7 : pre [38, 35, 120] (s.drop at') = true) :
 Calls Tryz.prog 137 #[.string ⟨s.toArray⟩, .int .i64 (at' : Int)] w fun e w' => e = .returned (sgV (sgR (s.drop at'))) ∧ Bl w w' := by
 have SC := Lib.hid (fun p W hp => startsAt_c s p at' (by omega) hp ha W); have HZ := Lib.hid (nmd_zero n1 n2 n3 n4 n5); have HN := Lib.hid (show nbr (s.drop at') = nbF 16 3 6 ((s.drop at').drop 3) by unfold nbr; rw [n7]; rfl); have hpl := pre_len n7; simp only [List.length_cons, List.length_nil, List.length_drop] at hpl; unfold nAmp at n1; unfold nLt at n2; unfold nGt at n3; unfold nQuot at n4; unfold nApos at n5; obtain ⟨r, hr⟩ : ∃ r, r = (s.drop at').drop 3 := ⟨_, rfl⟩; have hrl : r.length = s.length - at' - 3 := by rw [hr]; simp; omega
 have hri : ∀ k (h : at' + 3 + k < s.length) (h' : k < r.length), r[k] = s[at' + 3 + k] := by
  intro k h h'; simp only [hr, List.getElem_drop]; congr 1; omega
 rw [← hr] at HN; have hdl := ndg_le 16 r; obtain ⟨d, hd⟩ : ∃ d, d = ndg 16 r := ⟨_, rfl⟩; have hat := dig_at 16 r; have hend : ∀ h : d < r.length, dig 16 (r[d]'h) = false := by
  subst hd; exact dig_end 16 r
 have hall := ndg_all 16 r; rw [← hd] at hdl hat hall; have HAT := Lib.hid hat; have HEND := Lib.hid hend; have HALL := Lib.hid hall; have HD := Lib.hid hd; have HRI := Lib.hid hri; have HRL := Lib.hid hrl; have hb1 : at' + 3 + d ≤ s.length := by omega
 have hb2 : at' + 3 ≤ s.length := by omega
 clear hat hend hall hd hri hr; go_enter Tryz.func137, Tryz.ntmps137; go_wp2_with (go_at_call 69; refine (SC.out _ _ (by simp)).mono ?_; rintro e w' ⟨rfl, rfl⟩); go_loop [10, 11] (fun nv tv => ∃ k : Nat, k ≤ d ∧ k ≤ 6 + 1 ∧ tv = .int .i64 ((at' : Int) + 3 + (k : Int)) ∧ nv = .int .i64 (Nv 16 (r.take k))) (fun _ tv => at' + 3 + 6 + 2 - (intOf tv).toNat); case atStart => exact ⟨0, by omega, by omega, congrArg (Value.int .i64) (by simp), rfl⟩
 case round =>
  obtain ⟨k, hk, hkm, rfl, rfl⟩ := hrel; have hrl2 := HRL.out; have htn : ((at' : Int) + 3 + (k : Int)).toNat = at' + 3 + k := by omega
  have hnn : (0 : Int) ≤ (at' : Int) + 3 + (k : Int) := by omega
  have hsub : (at' : Int) + 3 + (k : Int) - ((at' : Int) + 3) = k := by omega
  have hall : (r.take k).all (dig 16) = true := by
   rw [List.all_eq_true]; intro c hc'; refine List.all_eq_true.1 HALL.out c ?_; rw [List.mem_take_iff_getElem] at hc' ⊢; obtain ⟨j, hj, rfl⟩ := hc'; exact ⟨j, by omega, rfl⟩
  by_cases hgo : k < d ∧ k < 6 + 1
  · obtain ⟨hkd, hkm2⟩ := hgo; have hkr : k < r.length := by omega
    have hks : at' + 3 + k < s.length := by omega
    have hks' : (at' : Int) + 3 + (k : Int) < (s.length : Int) := by omega
    have hc : (s[at' + 3 + k].toNat : Int) < 256 := by have := u8_lt s[at' + 3 + k]; omega
    have hdg := HAT.out k hkd hkr; rw [HRI.out k hks hkr] at hdg; have hdg2 : 0 ≤ Dg s[at' + 3 + k].toNat 16 := by simpa [dig] using hdg
    have hlt := Dg_lt s[at' + 3 + k].toNat 16 (by omega); have hbd := Nv_bd 16 (by omega) (r.take k) hall (by simp; omega); have hm : (k : Int) ≤ 6 := by omega
    have HT := Lib.hid (take_snoc r k hkr); have HS := Lib.hid (Nv_snoc 16 (r.take k) r[k]); have HI := Lib.hid (HRI.out k hks hkr); clear hdg hall; go_wp2_with (go_at_call 170; refine (digit_c _ _ (by omega) (by omega) _).mono ?_; rintro e w' ⟨rfl, rfl⟩); go_round; case rel => exact ⟨k + 1, by omega, by omega, congrArg (Value.int .i64) (by omega), congrArg (Value.int .i64) (by rw [HT.out, HS.out, HI.out])⟩
    case measure => simp [intOf]; omega
  · by_cases hkd : k < d
    · -- more digits than may be
      have hk8 : k = 6 + 1 := by omega
      have hkr : k < r.length := by omega
      have hks : at' + 3 + k < s.length := by omega
      have hks' : (at' : Int) + 3 + (k : Int) < (s.length : Int) := by omega
      have hc : (s[at' + 3 + k].toNat : Int) < 256 := by have := u8_lt s[at' + 3 + k]; omega
      have hdg := HAT.out k hkd hkr; rw [HRI.out k hks hkr] at hdg; have hdg2 : 0 ≤ Dg s[at' + 3 + k].toNat 16 := by simpa [dig] using hdg
      have hnone : (nbr (s.drop at')).2 = 0 := by
       rw [HN.out]; unfold nbF; rw [if_pos]; simp only [nbB, ← HD.out, Bool.or_eq_true, decide_eq_true_eq]; exact Or.inl (Or.inr (by omega))
      have HR := Lib.hid (sgR_none HZ.out hnone); have hm : ¬ (k : Int) ≤ 6 := by omega
      have hm2 : (6 : Int) < (k : Int) := by omega
      clear hdg hall hnone hgo hk8; go_wp2_with (go_at_call 170; refine (digit_c _ _ (by omega) (by omega) _).mono ?_; rintro e w' ⟨rfl, rfl⟩); all_goals
       go_ret3
       exact ⟨by rw [HR.out]; rfl, Bl.refl _⟩
    · have hkd2 : k = d := by omega
      have HDK := Lib.hid (show k = ndg 16 r from hkd2.trans HD.out); have hend : ∀ h : k < r.length, dig 16 (r[k]'h) = false := by subst hkd2; exact HEND.out
      clear hgo hkd hkd2 HAT HEND HALL HD hk hb1; by_cases hin : at' + 3 + k < s.length
      · have hks' : (at' : Int) + 3 + (k : Int) < (s.length : Int) := by omega
        have hkr : k < r.length := by omega
        have hc : (s[at' + 3 + k].toNat : Int) < 256 := by have := u8_lt s[at' + 3 + k]; omega
        have hdg := hend hkr; rw [HRI.out k hin hkr] at hdg; have hdg2 : ¬ 0 ≤ Dg s[at' + 3 + k].toNat 16 := by simpa [dig] using hdg
        have hget : r[k]? = some s[at' + 3 + k] := by rw [List.getElem?_eq_getElem hkr, HRI.out k hin hkr]
        have HG := Lib.hid hget; clear hend hdg hget; cases hx : ((s[at' + 3 + k].toNat : Int) != 59)
        · have h59 : s[at' + 3 + k] = 59 := by
           simp only [bne_eq_false_iff_eq] at hx; exact UInt8.toNat_inj.1 (by rw [show (59 : UInt8).toNat = 59 from rfl]; omega)
          by_cases hz : k = 0 ∨ 6 < k
          · have hnone : (nbr (s.drop at')).2 = 0 := by
             rw [HN.out]; unfold nbF; rw [if_pos]; simp only [nbB, ← HDK.out, Bool.or_eq_true, decide_eq_true_eq]; exact Or.inl hz
            have HR := Lib.hid (sgR_none HZ.out hnone); clear hnone h59 hall; rcases hz with hz | hz
            · have hz1 : ((k : Int) == 0) = true := by simp [hz]
              have hz2 : ((at' : Int) + 3 + (k : Int) == (at' : Int) + 3) = true := by simp [hz]
              clear hz; go_wp2_with (go_at_call 170; refine (digit_c _ _ (by omega) (by omega) _).mono ?_; rintro e w' ⟨rfl, rfl⟩); all_goals
               go_ret3
               exact ⟨by rw [HR.out]; rfl, Bl.refl _⟩
            · have hz1 : (6 : Int) < (k : Int) := by omega
              go_wp2_with (go_at_call 170; refine (digit_c _ _ (by omega) (by omega) _).mono ?_; rintro e w' ⟨rfl, rfl⟩); all_goals
               go_ret3
               exact ⟨by rw [HR.out]; rfl, Bl.refl _⟩
          · have hgood : nbr (s.drop at') = (Nv 16 (r.take k), 3 + k + 1) := by
             rw [HN.out]; unfold nbF; rw [if_neg, ← HDK.out]; simp only [nbB, ← HDK.out, Bool.or_eq_true, decide_eq_true_eq]; rintro (h | h)
             · exact hz h
             · rw [HG.out, h59] at h; exact h rfl
            have hz1 : ((k : Int) == 0) = false := by simp; omega
            have hz2 : ((at' : Int) + 3 + (k : Int) == (at' : Int) + 3) = false := by simp; omega
            have hz3 : ¬ (6 : Int) < (k : Int) := by omega
            have hz4 : ((at' : Int) + 3 + (k : Int) == (s.length : Int)) = false := by simp; omega
            have hbd := Nv_bd 16 (by omega) (r.take k) hall (by simp; omega); have hlen : (at' : Int) + 3 + (k : Int) + 1 - (at' : Int) = ((3 + k + 1 : Nat) : Int) := by omega
            have HLEN := Lib.hid hlen; have hn2 : (nbr (s.drop at')).2 ≠ 0 := by rw [hgood]; simp
            clear hz h59 hall hlen; obtain ⟨v, hv⟩ : ∃ v, v = Nv 16 (r.take k) := ⟨_, rfl⟩; rw [← hv] at hgood hbd ⊢; cases hsc : scl v
            · have HR := Lib.hid (sgR_bad HZ.out hn2 (by rw [hgood]; exact hsc)); rw [hgood] at HR; have hcase : v = 0 ∨ (55296 ≤ v ∧ v ≤ 57343) ∨ 1114111 < v := by simp [scl] at hsc; omega
              clear hsc hgood hn2 hv; rcases hcase with rfl | ⟨hc1, hc2⟩ | hc1
              · go_wp2_with (first | (go_at_call 170; refine (digit_c _ _ (by omega) (by omega) _).mono ?_; rintro e w' ⟨rfl, rfl⟩) | (go_at_call 28; refine (between_c _ _ _ _).mono ?_; rintro e w' ⟨rfl, rfl⟩))
                go_ret3
                exact ⟨by rw [HR.out, sgV, ← HLEN.out]; rfl, Bl.refl _⟩
              · have hv0 : (v == 0) = false := by simp; omega
                go_wp2_with (first | (go_at_call 170; refine (digit_c _ _ (by omega) (by omega) _).mono ?_; rintro e w' ⟨rfl, rfl⟩) | (go_at_call 28; refine (between_c _ _ _ _).mono ?_; rintro e w' ⟨rfl, rfl⟩))
                go_ret3
                exact ⟨by rw [HR.out, sgV, ← HLEN.out]; rfl, Bl.refl _⟩
              · have hv0 : (v == 0) = false := by simp; omega
                go_wp2_with (first | (go_at_call 170; refine (digit_c _ _ (by omega) (by omega) _).mono ?_; rintro e w' ⟨rfl, rfl⟩) | (go_at_call 28; refine (between_c _ _ _ _).mono ?_; rintro e w' ⟨rfl, rfl⟩)); all_goals
                 go_ret3
                 exact ⟨by rw [HR.out, sgV, ← HLEN.out]; rfl, Bl.refl _⟩
            · have HR := Lib.hid (sgR_good HZ.out hn2 (by rw [hgood]; exact hsc)); rw [hgood] at HR; have hcase : 0 < v ∧ v ≤ 1114111 ∧ (v < 55296 ∨ 57343 < v) := by simp [scl] at hsc; omega
              obtain ⟨hc1, hc2, hc3⟩ := hcase; have RC := Lib.hid (fun W => row_c v hc1 hc2 hc3 W); have hv0 : (v == 0) = false := by simp; omega
              clear hsc hgood hn2 hv; rcases hc3 with hc3 | hc3; all_goals
               go_wp2_with (first | (go_at_call 170; refine (digit_c _ _ (by omega) (by omega) _).mono ?_; rintro e w' ⟨rfl, rfl⟩) | (go_at_call 28; refine (between_c _ _ _ _).mono ?_; rintro e w' ⟨rfl, rfl⟩) | (go_at_call 171; (with_reducible refine (RC.out _).mono ?_); rintro e w' ⟨rfl, hb⟩))
               go_ret3
               exact ⟨by rw [HR.out, sgV, ← HLEN.out]; rfl, hb⟩
        · have hnone : (nbr (s.drop at')).2 = 0 := by
           rw [HN.out]; unfold nbF; rw [if_pos]; simp only [nbB, ← HDK.out, Bool.or_eq_true, decide_eq_true_eq]; refine Or.inr ?_; rw [HG.out]; intro h; rw [Option.some.inj h] at hx; exact absurd hx (by decide)
          have HR := Lib.hid (sgR_none HZ.out hnone); clear hnone hall; go_wp2_with (go_at_call 170; refine (digit_c _ _ (by omega) (by omega) _).mono ?_; rintro e w' ⟨rfl, rfl⟩); all_goals
           go_ret3
           exact ⟨by rw [HR.out]; rfl, Bl.refl _⟩
      · have hks' : ¬ (at' : Int) + 3 + (k : Int) < (s.length : Int) := by omega
        have hnone : (nbr (s.drop at')).2 = 0 := by
         rw [HN.out]; unfold nbF; rw [if_pos]; simp only [nbB, ← HDK.out, Bool.or_eq_true, decide_eq_true_eq]; refine Or.inr ?_; rw [List.getElem?_eq_none (by omega)]; simp
        have HR := Lib.hid (sgR_none HZ.out hnone); have hz4 : ((at' : Int) + 3 + (k : Int) == (s.length : Int)) = true := by
         have : k ≤ r.length := by rw [HDK.out]; exact ndg_le _ _
         simp; omega
        clear hnone hall hend; go_wp2_with (go_at_call 170; refine (digit_c _ _ (by omega) (by omega) _).mono ?_; rintro e w' ⟨rfl, rfl⟩); all_goals
         go_ret3
         exact ⟨by rw [HR.out]; rfl, Bl.refl _⟩
end Go.Proofs.YtamdlihgecpbkaaGreatDoor

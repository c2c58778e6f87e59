/- Shelves: the reference: clean trees, the tree of markup, does markup stay. -/
import Derived.Test.YtamdlihgecpbkaaGreatDoorGrpV
import Derived.Test.YtamdlihgecpbkaaGreatDoorTokRh
import Derived.Test.YtamdlihgecpbkaaGreatDoorTreRh
import Derived.Test.YtamdlihgecpbkaaGreatDoorTreRd
import Derived.Test.YtamdlihgecpbkaaGreatDoorTokRb
import Derived.Test.YtamdlihgecpbkaaGreatDoorGrpO
set_option maxRecDepth 100000
set_option maxHeartbeats 16000000
namespace Go.Proofs.YtamdlihgecpbkaaGreatDoor
open Go.RowKit
mutual
def clN : Nd → Bool
 | .mk n a _ k => decide (n = []) || (alwN n && !(decide (n = sImg) && !hasS a) && clL k && !(a.any (badA n)))
def clL : List Nd → Bool
 | [] => true
 | d :: l => clN d && clL l
end
theorem clN_mk (d : Nd) : clN d = (decide (d.n = []) || (alwN d.n && !(decide (d.n = sImg) && !hasS d.a) && clL d.k && !(d.a.any (badA d.n)))) := by
 cases d; rw [clN]; rfl
theorem clL_all (l : List Nd) : clL l = l.all clN := by
 induction l with
 | nil => rw [clL]; rfl
 | cons d l ih => rw [clL, ih]; rfl
theorem clL_no {l : List Nd} {k : Nat} (hk : k < l.length) (h : clN l[k] = false) : clL l = false := by
 rw [clL_all, List.all_eq_false]; exact ⟨l[k], List.getElem_mem hk, by rw [h]; simp⟩
theorem clL_yes {l : List Nd} (h : ∀ j (hj : j < l.length), clN l[j] = true) : clL l = true := by
 rw [clL_all, List.all_eq_true]; intro d hd; obtain ⟨j, hj, rfl⟩ := List.getElem_of_mem hd; exact h j hj
theorem clL_saf (l : List Nd) : ∀ r prev, ckL r prev l = 0 → clL l = safL l := by
 induction l using Nd.ind with
 | h0 => intro r prev _; rw [clL, safL]
 | h1 n a x k l ik il =>
   intro r prev h; rw [ckL] at h; by_cases h1 : ckN r prev (.mk n a x k) = 0
   · rw [if_neg (by rw [h1]; simp)] at h; rw [clL, safL, il _ _ h]; congr 1; rw [ckN] at h1; by_cases h2 : ndE r (.mk n a x k) = 0
     · rw [if_neg (by rw [h2]; simp)] at h1; rw [clN, safN]; by_cases hn : n = []
       · subst hn; have hk : k = [] := by
          unfold ndE at h2; simp at h2; rcases k with _ | ⟨d, k⟩
          · rfl
          · simp at h2
         subst hk; simp [safL]
       · split at h1
         · exact absurd h1 (by decide)
         · rw [ik _ _ h1]; rw [decide_eq_false hn, show decide (n ≠ []) = true from decide_eq_true hn]; cases alwN n <;> cases decide (n = sImg) <;> cases hasS a <;> cases safL k <;> cases a.any (badA n) <;> rfl
     · rw [if_pos h2] at h1; exact absurd h1 h2
   · rw [if_pos h1] at h; exact absurd h h1
theorem isCleanR_c (N : Nat) : ∀ (l : List Nd) (v : Value) (P : Nat → Prop) (w : World), wtL l < N → N ≤ 1000000 → NdS w P v l →
 Calls Tryz.prog 62 #[v] w fun e w' => e = .returned (.bool (clL l)) ∧ Bl w w' := by
 induction N with
 | zero => intro l v P w h; omega
 | succ N ih =>
   intro l v P w hN hN2 hA; obtain ⟨ao, cap, rfl, hcap, hA⟩ := hA.get; have hll := cnt_len l; have hlc := wt_cnt l; have hlm : l.length ≤ 1000000 := by omega
   go_enter Tryz.func62, Tryz.ntmps62; go_wp2; go_loopw [3] (fun i wr => ∃ k : Nat, k ≤ l.length ∧ i = .int .i64 k ∧ Hid (∀ j (h : j < l.length), j < k → clN l[j] = true) ∧ Bl w wr) (fun i _ => l.length - (intOf i).toNat); case atStart => exact ⟨0, Nat.zero_le _, rfl, Lib.hid (fun j _ h => by omega), Bl.refl _⟩
   case round =>
    obtain ⟨k, hk, rfl, HP, hq⟩ := hrel; by_cases hlt : k < l.length
    · obtain ⟨g, o, va, vk, rfl, hg, -, h3, h4, h5, h6, h7, h8⟩ := hA k hlt; have hwt := wt_get l k hlt; have hwa := wtA_len l[k].a; have c1 := (hq.cells.1 g _ hg).trans h3; have c2 := (hq.cells.1 g _ hg).trans h4; have c3 := (hq.cells.1 g _ hg).trans h5; have c4 := (hq.cells.1 g _ hg).trans h6; have hal : l[k].a.length ≤ 1000000 := by omega
      have hval : ∀ a ∈ l[k].a, a.2.length ≤ 1000000 := fun a ha => by have := wtA_val ha; omega
      have HAt := Lib.hid h7.ats; have IC := Lib.hid (fun W (hb : Bl w W) => ih l[k].k vk P W (by omega) (by omega) (h8.of_bl hb)); have HCL := Lib.hid (clN_mk l[k]); have HNO := Lib.hid (fun h => clL_no hlt h); have HYES := Lib.hid (show clN l[k] = true → ∀ j (h : j < l.length), j < k + 1 → clN l[j] = true from fun h j hj hjk => by
       by_cases e : j = k
       · subst e; exact h
       · exact HP.out j hj (by omega))
      obtain ⟨CL, hCL⟩ : ∃ CL, CL = clN l[k] := ⟨_, rfl⟩; obtain ⟨n, hn⟩ : ∃ n, n = l[k].n := ⟨_, rfl⟩; obtain ⟨a, ha⟩ : ∃ a, a = l[k].a := ⟨_, rfl⟩; obtain ⟨x, hx⟩ : ∃ x, x = l[k].x := ⟨_, rfl⟩; obtain ⟨ck, hck⟩ : ∃ ck, ck = clL l[k].k := ⟨_, rfl⟩; obtain ⟨ak, nk, kk, rfl⟩ : ∃ a n c, vk = .slice a n c := by obtain ⟨a, c, h, _⟩ := h8; exact ⟨a, _, c, h⟩
      rw [← hCL] at HCL HNO HYES; rw [← hn] at c1 HCL; rw [← ha] at hal hval HAt HCL; rw [← hx] at c3; rw [← hck] at IC HCL; clear hCL hn ha hx hck h3 h4 h5 h6 h7 h8 hwt hwa hA ih HP hN hN2 hll hlc; obtain ⟨aa, ca, hva, -⟩ := id HAt.out; subst hva; have HS := Lib.hid (fun W (hb : Bl w W) => hasSrcR_c a _ (by omega) W (HAt.out.of_bl hb)); have AL := Lib.hid (fun W => allowedR_c n W); have hN0 := B4.new wr (.string ⟨n.toArray⟩) (.slice aa a.length ca) (.string ⟨x.toArray⟩) (.slice ak nk kk) 76; have hb0 : Bl w (wr.alloc (.cells #[.string ⟨n.toArray⟩, .slice aa a.length ca, .string ⟨x.toArray⟩, .slice ak nk kk] 76)) := hq.alloc _; by_cases h0 : n = []
      · subst h0; have HT := Lib.hid (show CL = true from by rw [HCL.out]; rfl); go_wp2; go_roundw; case rel => exact ⟨k + 1, by omega, by go_num, Lib.hid (HYES.out HT.out), hb0⟩
        case measure => simp [intOf]; omega
      · have h0' : n.isEmpty = false := by cases n <;> simp_all
        have HCL2 := Lib.hid (show CL = (alwN n && !(decide (n = sImg) && !hasS a) && ck && !(a.any (badA n))) from by rw [HCL.out, decide_eq_false h0, Bool.false_or]); clear h0 HCL; cases hal2 : alwN n with
        | false =>
          rw [hal2] at AL HCL2; clear hal2; go_wp2_with (first | (go_at_call 96; (with_reducible refine (AL.out _).mono ?_); rintro e w1 ⟨rfl, hb1⟩; obtain ⟨l1, x1, y1, z1, u1⟩ := hN0.of_bl hb1; have hB1 := hb0.trans hb1)); go_ret; exact ⟨ret_bool (by rw [HNO.out (by rw [HCL2.out]; rfl)]), hB1⟩
        | true =>
          rw [hal2] at AL HCL2; clear hal2; by_cases him : n = sImg
          · subst him; unfold sImg at *; cases hsr : hasS a with
            | false =>
              rw [hsr] at HS HCL2; clear hsr; go_wp2_with (first | (go_at_call 96; (with_reducible refine (AL.out _).mono ?_); rintro e w1 ⟨rfl, hb1⟩; obtain ⟨l1, x1, y1, z1, u1⟩ := hN0.of_bl hb1; have hB1 := hb0.trans hb1) | (go_at_call 97; (with_reducible refine (HS.out _ hB1).mono ?_); rintro e w2 ⟨rfl, rfl⟩)); go_ret; exact ⟨ret_bool (by rw [HNO.out (by rw [HCL2.out]; rfl)]), hB1⟩
            | true =>
              rw [hsr] at HS HCL2; clear hsr; have HCL3 := Lib.hid (show CL = (ck && !(a.any (badA [105, 109, 103]))) from by rw [HCL2.out]; rfl); clear HCL2; cases ck with
              | false =>
                go_wp2_with (first | (go_at_call 96; (with_reducible refine (AL.out _).mono ?_); rintro e w1 ⟨rfl, hb1⟩; obtain ⟨l1, x1, y1, z1, u1⟩ := hN0.of_bl hb1; have hB1 := hb0.trans hb1) | (go_at_call 97; (with_reducible refine (HS.out _ hB1).mono ?_); rintro e w2 ⟨rfl, rfl⟩) | (go_at_call 62; (with_reducible refine (IC.out _ hB1).mono ?_); rintro e w3 ⟨rfl, hb3⟩; obtain ⟨l3, x3, y3, z3, u3⟩ := (hN0.of_bl hb1).of_bl hb3; have hB3 := hB1.trans hb3)); go_ret; exact ⟨ret_bool (by rw [HNO.out (by rw [HCL3.out]; rfl)]), hB3⟩
              | true =>
                have HCL4 := Lib.hid (show CL = !(a.any (badA [105, 109, 103])) from by rw [HCL3.out]; rfl); clear HCL3; go_wp2_with (first | (go_at_call 96; (with_reducible refine (AL.out _).mono ?_); rintro e w1 ⟨rfl, hb1⟩; obtain ⟨l1, x1, y1, z1, u1⟩ := hN0.of_bl hb1; have hB1 := hb0.trans hb1) | (go_at_call 97; (with_reducible refine (HS.out _ hB1).mono ?_); rintro e w2 ⟨rfl, rfl⟩) | (go_at_call 62; (with_reducible refine (IC.out _ hB1).mono ?_); rintro e w3 ⟨rfl, hb3⟩; obtain ⟨l3, x3, y3, z3, u3⟩ := (hN0.of_bl hb1).of_bl hb3; have hB3 := hB1.trans hb3)); have HN3 := Lib.hid ((hN0.of_bl hb1).of_bl hb3); clear l1 x1 y1 z1 u1 l3 x3 y3 z3 u3 hb0 hN0 c1 c2 c3 c4 hb1 hb3 hB1 IC HS AL; clear hq; obtain ⟨w5, hw5⟩ : ∃ w5, w5 = wr := ⟨wr, rfl⟩; subst hw5; go_loopw [5] (fun i2 wz => ∃ j : Nat, j ≤ a.length ∧ i2 = .int .i64 j ∧ Hid (∀ t (h : t < a.length), t < j → badA [105, 109, 103] a[t] = false) ∧ Bl w3 wz) (fun i2 _ => a.length - (intOf i2).toNat); case atStart => exact ⟨0, Nat.zero_le _, rfl, Lib.hid (fun t _ h => by omega), Bl.refl _⟩
                case round =>
                 obtain ⟨j, hj, rfl, HQ, hq3⟩ := hrel; obtain ⟨l4, x4, y4, z4, u4⟩ := HN3.out.of_bl hq3; by_cases hlj : j < a.length
                 · obtain ⟨a', c', e', hAA⟩ := HAt.out; cases e'; obtain ⟨g2, o2, e2, hg2, k1, k2⟩ := hAA j hlj; subst e2; have d1 := ((hB3.trans hq3).cells.1 g2 _ hg2).trans k1; have d2 := ((hB3.trans hq3).cells.1 g2 _ hg2).trans k2; have MC := Lib.hid (fun W => mayHaveR_c [105, 109, 103] a[j].1 W); have SC := Lib.hid (fun W => isSafe_c a[j].2 (hval _ (List.getElem_mem hlj)) W); have LC := Lib.hid (fun W => isLongR_c a[j].2 W); have hM0 := B2.new wr (.string ⟨a[j].1.toArray⟩) (.string ⟨a[j].2.toArray⟩) 123; have hm0 : Bl w3 (wr.alloc (.cells #[.string ⟨a[j].1.toArray⟩, .string ⟨a[j].2.toArray⟩] 123)) := hq3.alloc _; have HBad := Lib.hid (show badA [105, 109, 103] a[j] = (!mayA [105, 109, 103] a[j].1 || lnkN a[j].1 && (!isU a[j].2 || decide (3000 < a[j].2.length))) from rfl); have HNO2 := Lib.hid (show badA [105, 109, 103] a[j] = true → clL l = false from fun h => HNO.out (by
                    rw [HCL4.out, Bool.not_eq_false', List.any_eq_true]; exact ⟨a[j], List.getElem_mem hlj, h⟩))
                   have HYES2 := Lib.hid (show badA [105, 109, 103] a[j] = false → ∀ t (h : t < a.length), t < j + 1 → badA [105, 109, 103] a[t] = false from fun h t ht htj => by
                    by_cases e : t = j
                    · subst e; exact h
                    · exact HQ.out t ht (by omega))
                   obtain ⟨bad, hbad⟩ : ∃ b, b = badA [105, 109, 103] a[j] := ⟨_, rfl⟩; rw [← hbad] at HBad HNO2 HYES2; clear k1 k2 hAA hbad; cases hm : mayA [105, 109, 103] a[j].1 with
                   | false =>
                     rw [hm] at MC HBad; clear hm; go_wp2_with (first | (go_at_call 98; (with_reducible refine (MC.out _).mono ?_); rintro e w4 ⟨rfl, rfl⟩)); go_ret; exact ⟨ret_bool (by rw [HNO2.out (by rw [HBad.out]; rfl)]), hB3.trans hm0⟩
                   | true =>
                     rw [hm] at MC HBad; clear hm; by_cases hh : a[j].1 = sHref
                     · have hh' : (a[j].1 == [104, 114, 101, 102]) = true := by simpa [sHref] using hh
                       have HL := Lib.hid (show lnkN a[j].1 = true from by unfold lnkN; rw [decide_eq_true hh]; rfl); clear hh; cases hu : isU a[j].2 with
                       | false =>
                         rw [hu] at SC HBad; clear hu; go_wp2_with (first | (go_at_call 98; (with_reducible refine (MC.out _).mono ?_); rintro e w4 ⟨rfl, rfl⟩) | (go_at_call 29; (with_reducible refine (SC.out _).mono ?_); rintro e w6 ⟨rfl, hb6⟩; obtain ⟨l6, x6, y6⟩ := hM0.of_bl hb6) | (go_at_call 27; (with_reducible refine (LC.out _).mono ?_); rintro e w7 ⟨rfl, rfl⟩)); go_ret; exact ⟨ret_bool (by rw [HNO2.out (by rw [HBad.out, HL.out]; rfl)]), hB3.trans (hm0.trans hb6)⟩
                       | true =>
                         rw [hu] at SC HBad; clear hu; cases hg3 : decide (3000 < a[j].2.length) with
                         | true =>
                           rw [hg3] at LC HBad; clear hg3; go_wp2_with (first | (go_at_call 98; (with_reducible refine (MC.out _).mono ?_); rintro e w4 ⟨rfl, rfl⟩) | (go_at_call 29; (with_reducible refine (SC.out _).mono ?_); rintro e w6 ⟨rfl, hb6⟩; obtain ⟨l6, x6, y6⟩ := hM0.of_bl hb6) | (go_at_call 27; (with_reducible refine (LC.out _).mono ?_); rintro e w7 ⟨rfl, rfl⟩)); go_ret; exact ⟨ret_bool (by rw [HNO2.out (by rw [HBad.out, HL.out]; rfl)]), hB3.trans (hm0.trans hb6)⟩
                         | false =>
                           rw [hg3] at LC HBad; clear hg3; go_wp2_with (first | (go_at_call 98; (with_reducible refine (MC.out _).mono ?_); rintro e w4 ⟨rfl, rfl⟩) | (go_at_call 29; (with_reducible refine (SC.out _).mono ?_); rintro e w6 ⟨rfl, hb6⟩; obtain ⟨l6, x6, y6⟩ := hM0.of_bl hb6) | (go_at_call 27; (with_reducible refine (LC.out _).mono ?_); rintro e w7 ⟨rfl, rfl⟩)); go_roundw; case rel => exact ⟨j + 1, by omega, by go_num, Lib.hid (HYES2.out (by rw [HBad.out, HL.out]; rfl)), hm0.trans hb6⟩
                           case measure => simp [intOf]; omega
                     · have hh' : (a[j].1 == [104, 114, 101, 102]) = false := by simpa [sHref] using hh
                       by_cases hs : a[j].1 = sSrc
                       · have hs' : (a[j].1 == [115, 114, 99]) = true := by simpa [sSrc] using hs
                         have HL := Lib.hid (show lnkN a[j].1 = true from by unfold lnkN; rw [decide_eq_true hs, Bool.or_true]); clear hh hs; cases hu : isU a[j].2 with
                         | false =>
                           rw [hu] at SC HBad; clear hu; go_wp2_with (first | (go_at_call 98; (with_reducible refine (MC.out _).mono ?_); rintro e w4 ⟨rfl, rfl⟩) | (go_at_call 29; (with_reducible refine (SC.out _).mono ?_); rintro e w6 ⟨rfl, hb6⟩; obtain ⟨l6, x6, y6⟩ := hM0.of_bl hb6) | (go_at_call 27; (with_reducible refine (LC.out _).mono ?_); rintro e w7 ⟨rfl, rfl⟩)); go_ret; exact ⟨ret_bool (by rw [HNO2.out (by rw [HBad.out, HL.out]; rfl)]), hB3.trans (hm0.trans hb6)⟩
                         | true =>
                           rw [hu] at SC HBad; clear hu; cases hg3 : decide (3000 < a[j].2.length) with
                           | true =>
                             rw [hg3] at LC HBad; clear hg3; go_wp2_with (first | (go_at_call 98; (with_reducible refine (MC.out _).mono ?_); rintro e w4 ⟨rfl, rfl⟩) | (go_at_call 29; (with_reducible refine (SC.out _).mono ?_); rintro e w6 ⟨rfl, hb6⟩; obtain ⟨l6, x6, y6⟩ := hM0.of_bl hb6) | (go_at_call 27; (with_reducible refine (LC.out _).mono ?_); rintro e w7 ⟨rfl, rfl⟩)); go_ret; exact ⟨ret_bool (by rw [HNO2.out (by rw [HBad.out, HL.out]; rfl)]), hB3.trans (hm0.trans hb6)⟩
                           | false =>
                             rw [hg3] at LC HBad; clear hg3; go_wp2_with (first | (go_at_call 98; (with_reducible refine (MC.out _).mono ?_); rintro e w4 ⟨rfl, rfl⟩) | (go_at_call 29; (with_reducible refine (SC.out _).mono ?_); rintro e w6 ⟨rfl, hb6⟩; obtain ⟨l6, x6, y6⟩ := hM0.of_bl hb6) | (go_at_call 27; (with_reducible refine (LC.out _).mono ?_); rintro e w7 ⟨rfl, rfl⟩)); go_roundw; case rel => exact ⟨j + 1, by omega, by go_num, Lib.hid (HYES2.out (by rw [HBad.out, HL.out]; rfl)), hm0.trans hb6⟩
                             case measure => simp [intOf]; omega
                       · have hs' : (a[j].1 == [115, 114, 99]) = false := by simpa [sSrc] using hs
                         have HL := Lib.hid (show lnkN a[j].1 = false from by unfold lnkN; rw [decide_eq_false hs, decide_eq_false hh]; rfl); clear hh hs; go_wp2_with (first | (go_at_call 98; (with_reducible refine (MC.out _).mono ?_); rintro e w4 ⟨rfl, rfl⟩)); go_roundw; case rel => exact ⟨j + 1, by omega, by go_num, Lib.hid (HYES2.out (by rw [HBad.out, HL.out]; rfl)), hm0⟩
                         case measure => simp [intOf]; omega
                 · have HE := Lib.hid (show CL = true from by
                    rw [HCL4.out, Bool.not_eq_true', List.any_eq_false]; intro b hb; obtain ⟨t, ht, rfl⟩ := List.getElem_of_mem hb; rw [HQ.out t ht (by omega)]; simp)
                   go_wp2; go_roundw; case rel => exact ⟨k + 1, by omega, by go_num, Lib.hid (HYES.out HE.out), hB3.trans hq3⟩
                   case measure => simp [intOf]; omega
          · have him' : (n == [105, 109, 103]) = false := by simpa [sImg] using him
            have HCL3 := Lib.hid (show CL = (ck && !(a.any (badA n))) from by rw [HCL2.out, decide_eq_false him]; rfl); clear HCL2 him; cases ck with
            | false =>
              go_wp2_with (first | (go_at_call 96; (with_reducible refine (AL.out _).mono ?_); rintro e w1 ⟨rfl, hb1⟩; obtain ⟨l1, x1, y1, z1, u1⟩ := hN0.of_bl hb1; have hB1 := hb0.trans hb1) | (go_at_call 97; (with_reducible refine (HS.out _ hB1).mono ?_); rintro e w2 ⟨rfl, rfl⟩) | (go_at_call 62; (with_reducible refine (IC.out _ hB1).mono ?_); rintro e w3 ⟨rfl, hb3⟩; obtain ⟨l3, x3, y3, z3, u3⟩ := (hN0.of_bl hb1).of_bl hb3; have hB3 := hB1.trans hb3)); go_ret; exact ⟨ret_bool (by rw [HNO.out (by rw [HCL3.out]; rfl)]), hB3⟩
            | true =>
              have HCL4 := Lib.hid (show CL = !(a.any (badA n)) from by rw [HCL3.out]; rfl); clear HCL3; go_wp2_with (first | (go_at_call 96; (with_reducible refine (AL.out _).mono ?_); rintro e w1 ⟨rfl, hb1⟩; obtain ⟨l1, x1, y1, z1, u1⟩ := hN0.of_bl hb1; have hB1 := hb0.trans hb1) | (go_at_call 97; (with_reducible refine (HS.out _ hB1).mono ?_); rintro e w2 ⟨rfl, rfl⟩) | (go_at_call 62; (with_reducible refine (IC.out _ hB1).mono ?_); rintro e w3 ⟨rfl, hb3⟩; obtain ⟨l3, x3, y3, z3, u3⟩ := (hN0.of_bl hb1).of_bl hb3; have hB3 := hB1.trans hb3)); have HN3 := Lib.hid ((hN0.of_bl hb1).of_bl hb3); clear l1 x1 y1 z1 u1 l3 x3 y3 z3 u3 hb0 hN0 c1 c2 c3 c4 hb1 hb3 hB1 IC HS AL; clear hq; obtain ⟨w5, hw5⟩ : ∃ w5, w5 = wr := ⟨wr, rfl⟩; subst hw5; go_loopw [5] (fun i2 wz => ∃ j : Nat, j ≤ a.length ∧ i2 = .int .i64 j ∧ Hid (∀ t (h : t < a.length), t < j → badA n a[t] = false) ∧ Bl w3 wz) (fun i2 _ => a.length - (intOf i2).toNat); case atStart => exact ⟨0, Nat.zero_le _, rfl, Lib.hid (fun t _ h => by omega), Bl.refl _⟩
              case round =>
               obtain ⟨j, hj, rfl, HQ, hq3⟩ := hrel; obtain ⟨l4, x4, y4, z4, u4⟩ := HN3.out.of_bl hq3; by_cases hlj : j < a.length
               · obtain ⟨a', c', e', hAA⟩ := HAt.out; cases e'; obtain ⟨g2, o2, e2, hg2, k1, k2⟩ := hAA j hlj; subst e2; have d1 := ((hB3.trans hq3).cells.1 g2 _ hg2).trans k1; have d2 := ((hB3.trans hq3).cells.1 g2 _ hg2).trans k2; have MC := Lib.hid (fun W => mayHaveR_c n a[j].1 W); have SC := Lib.hid (fun W => isSafe_c a[j].2 (hval _ (List.getElem_mem hlj)) W); have LC := Lib.hid (fun W => isLongR_c a[j].2 W); have hM0 := B2.new wr (.string ⟨a[j].1.toArray⟩) (.string ⟨a[j].2.toArray⟩) 123; have hm0 : Bl w3 (wr.alloc (.cells #[.string ⟨a[j].1.toArray⟩, .string ⟨a[j].2.toArray⟩] 123)) := hq3.alloc _; have HBad := Lib.hid (show badA n a[j] = (!mayA n a[j].1 || lnkN a[j].1 && (!isU a[j].2 || decide (3000 < a[j].2.length))) from rfl); have HNO2 := Lib.hid (show badA n a[j] = true → clL l = false from fun h => HNO.out (by
                  rw [HCL4.out, Bool.not_eq_false', List.any_eq_true]; exact ⟨a[j], List.getElem_mem hlj, h⟩))
                 have HYES2 := Lib.hid (show badA n a[j] = false → ∀ t (h : t < a.length), t < j + 1 → badA n a[t] = false from fun h t ht htj => by
                  by_cases e : t = j
                  · subst e; exact h
                  · exact HQ.out t ht (by omega))
                 obtain ⟨bad, hbad⟩ : ∃ b, b = badA n a[j] := ⟨_, rfl⟩; rw [← hbad] at HBad HNO2 HYES2; clear k1 k2 hAA hbad; cases hm : mayA n a[j].1 with
                 | false =>
                   rw [hm] at MC HBad; clear hm; go_wp2_with (first | (go_at_call 98; (with_reducible refine (MC.out _).mono ?_); rintro e w4 ⟨rfl, rfl⟩)); go_ret; exact ⟨ret_bool (by rw [HNO2.out (by rw [HBad.out]; rfl)]), hB3.trans hm0⟩
                 | true =>
                   rw [hm] at MC HBad; clear hm; by_cases hh : a[j].1 = sHref
                   · have hh' : (a[j].1 == [104, 114, 101, 102]) = true := by simpa [sHref] using hh
                     have HL := Lib.hid (show lnkN a[j].1 = true from by unfold lnkN; rw [decide_eq_true hh]; rfl); clear hh; cases hu : isU a[j].2 with
                     | false =>
                       rw [hu] at SC HBad; clear hu; go_wp2_with (first | (go_at_call 98; (with_reducible refine (MC.out _).mono ?_); rintro e w4 ⟨rfl, rfl⟩) | (go_at_call 29; (with_reducible refine (SC.out _).mono ?_); rintro e w6 ⟨rfl, hb6⟩; obtain ⟨l6, x6, y6⟩ := hM0.of_bl hb6) | (go_at_call 27; (with_reducible refine (LC.out _).mono ?_); rintro e w7 ⟨rfl, rfl⟩)); go_ret; exact ⟨ret_bool (by rw [HNO2.out (by rw [HBad.out, HL.out]; rfl)]), hB3.trans (hm0.trans hb6)⟩
                     | true =>
                       rw [hu] at SC HBad; clear hu; cases hg3 : decide (3000 < a[j].2.length) with
                       | true =>
                         rw [hg3] at LC HBad; clear hg3; go_wp2_with (first | (go_at_call 98; (with_reducible refine (MC.out _).mono ?_); rintro e w4 ⟨rfl, rfl⟩) | (go_at_call 29; (with_reducible refine (SC.out _).mono ?_); rintro e w6 ⟨rfl, hb6⟩; obtain ⟨l6, x6, y6⟩ := hM0.of_bl hb6) | (go_at_call 27; (with_reducible refine (LC.out _).mono ?_); rintro e w7 ⟨rfl, rfl⟩)); go_ret; exact ⟨ret_bool (by rw [HNO2.out (by rw [HBad.out, HL.out]; rfl)]), hB3.trans (hm0.trans hb6)⟩
                       | false =>
                         rw [hg3] at LC HBad; clear hg3; go_wp2_with (first | (go_at_call 98; (with_reducible refine (MC.out _).mono ?_); rintro e w4 ⟨rfl, rfl⟩) | (go_at_call 29; (with_reducible refine (SC.out _).mono ?_); rintro e w6 ⟨rfl, hb6⟩; obtain ⟨l6, x6, y6⟩ := hM0.of_bl hb6) | (go_at_call 27; (with_reducible refine (LC.out _).mono ?_); rintro e w7 ⟨rfl, rfl⟩)); go_roundw; case rel => exact ⟨j + 1, by omega, by go_num, Lib.hid (HYES2.out (by rw [HBad.out, HL.out]; rfl)), hm0.trans hb6⟩
                         case measure => simp [intOf]; omega
                   · have hh' : (a[j].1 == [104, 114, 101, 102]) = false := by simpa [sHref] using hh
                     by_cases hs : a[j].1 = sSrc
                     · have hs' : (a[j].1 == [115, 114, 99]) = true := by simpa [sSrc] using hs
                       have HL := Lib.hid (show lnkN a[j].1 = true from by unfold lnkN; rw [decide_eq_true hs, Bool.or_true]); clear hh hs; cases hu : isU a[j].2 with
                       | false =>
                         rw [hu] at SC HBad; clear hu; go_wp2_with (first | (go_at_call 98; (with_reducible refine (MC.out _).mono ?_); rintro e w4 ⟨rfl, rfl⟩) | (go_at_call 29; (with_reducible refine (SC.out _).mono ?_); rintro e w6 ⟨rfl, hb6⟩; obtain ⟨l6, x6, y6⟩ := hM0.of_bl hb6) | (go_at_call 27; (with_reducible refine (LC.out _).mono ?_); rintro e w7 ⟨rfl, rfl⟩)); go_ret; exact ⟨ret_bool (by rw [HNO2.out (by rw [HBad.out, HL.out]; rfl)]), hB3.trans (hm0.trans hb6)⟩
                       | true =>
                         rw [hu] at SC HBad; clear hu; cases hg3 : decide (3000 < a[j].2.length) with
                         | true =>
                           rw [hg3] at LC HBad; clear hg3; go_wp2_with (first | (go_at_call 98; (with_reducible refine (MC.out _).mono ?_); rintro e w4 ⟨rfl, rfl⟩) | (go_at_call 29; (with_reducible refine (SC.out _).mono ?_); rintro e w6 ⟨rfl, hb6⟩; obtain ⟨l6, x6, y6⟩ := hM0.of_bl hb6) | (go_at_call 27; (with_reducible refine (LC.out _).mono ?_); rintro e w7 ⟨rfl, rfl⟩)); go_ret; exact ⟨ret_bool (by rw [HNO2.out (by rw [HBad.out, HL.out]; rfl)]), hB3.trans (hm0.trans hb6)⟩
                         | false =>
                           rw [hg3] at LC HBad; clear hg3; go_wp2_with (first | (go_at_call 98; (with_reducible refine (MC.out _).mono ?_); rintro e w4 ⟨rfl, rfl⟩) | (go_at_call 29; (with_reducible refine (SC.out _).mono ?_); rintro e w6 ⟨rfl, hb6⟩; obtain ⟨l6, x6, y6⟩ := hM0.of_bl hb6) | (go_at_call 27; (with_reducible refine (LC.out _).mono ?_); rintro e w7 ⟨rfl, rfl⟩)); go_roundw; case rel => exact ⟨j + 1, by omega, by go_num, Lib.hid (HYES2.out (by rw [HBad.out, HL.out]; rfl)), hm0.trans hb6⟩
                           case measure => simp [intOf]; omega
                     · have hs' : (a[j].1 == [115, 114, 99]) = false := by simpa [sSrc] using hs
                       have HL := Lib.hid (show lnkN a[j].1 = false from by unfold lnkN; rw [decide_eq_false hs, decide_eq_false hh]; rfl); clear hh hs; go_wp2_with (first | (go_at_call 98; (with_reducible refine (MC.out _).mono ?_); rintro e w4 ⟨rfl, rfl⟩)); go_roundw; case rel => exact ⟨j + 1, by omega, by go_num, Lib.hid (HYES2.out (by rw [HBad.out, HL.out]; rfl)), hm0⟩
                       case measure => simp [intOf]; omega
               · have HE := Lib.hid (show CL = true from by
                  rw [HCL4.out, Bool.not_eq_true', List.any_eq_false]; intro b hb; obtain ⟨t, ht, rfl⟩ := List.getElem_of_mem hb; rw [HQ.out t ht (by omega)]; simp)
                 go_wp2; go_roundw; case rel => exact ⟨k + 1, by omega, by go_num, Lib.hid (HYES.out HE.out), hB3.trans hq3⟩
                 case measure => simp [intOf]; omega
    · have HE := Lib.hid (show clL l = true from clL_yes (fun j hj => HP.out j hj (by omega))); clear hA; go_wp2; go_ret; exact ⟨ret_bool (by rw [HE.out]), hq⟩
theorem treeOfR_c (s : List UInt8) (hs : s.length ≤ 3000) (w : World) :
 Calls Tryz.prog 35 #[.string ⟨s.toArray⟩] w fun e w' => ∃ v, e = .returned v ∧ (∃ Q, NdS w' Q v (ofM (TokL s))) ∧ Bl w w' := by
 have h0 := TokL_ck s hs; have hsz := TokL_sum s; have hl := szT_len (TokL s); have TC := Lib.hid (fun W => tokensOf_c s (by omega) W); have BC := Lib.hid (fun v W (hT : TkS W v (TokL s)) => (show Calls Tryz.prog 67 #[v, .int .i64 0, .slice none 0 0] W fun e w' => ∃ v' i j, e = .returned (.tuple #[v', .int .i64 i, .int .i64 j]) ∧ (∃ Q, NdS w' Q v' (ofM (TokL s))) ∧ Bl W w' from by
  have r := buildOf_c (TokL s) v 9000000 (by omega) ((TokL s).length + 1) 0 [] (.slice none 0 0) W (by omega) (by omega) (by simp) (by simp only [List.drop_zero]; omega) (by omega) hT ⟨none, 0, rfl, Nat.le_refl _, fun i hi => absurd hi (by simp)⟩; refine r.mono fun e w' ⟨v', he, ⟨Q, hN, _⟩, hb⟩ => ⟨v', _, _, he, ⟨Q, ?_⟩, hb⟩
  rw [List.drop_zero, bl_ofM (TokL s) (ckE_tok h0)] at hN; exact hN))
 clear h0 hsz hl hs; go_enter Tryz.func35, Tryz.ntmps35; go_wp2_with (first | (go_at_call 68; (with_reducible refine (TC.out _).mono ?_); rintro e w1 ⟨v1, rfl, hT1, hb1⟩) | (go_at_call 67; (with_reducible refine (BC.out _ _ hT1).mono ?_); rintro e w2 ⟨v2, i2, j2, rfl, hN2, hb2⟩)); go_ret; exact ⟨_, rfl, hN2, hb1.trans hb2⟩
theorem doesStay_c (s : List UInt8) (w : World) :
 Calls Tryz.prog 30 #[.string ⟨s.toArray⟩] w fun e w' => e = .returned (.bool (stayU s)) ∧ Bl w w' := by
 have LC := Lib.hid (fun W => isLongR_c s W); by_cases h3 : 3000 < s.length
 · have HR := Lib.hid (show stayU s = false by unfold stayU; rw [decide_eq_false (by omega)]; rfl); rw [decide_eq_true h3] at LC; clear h3; go_enter Tryz.func30, Tryz.ntmps30; go_wp2_with (first | (go_at_call 27; (with_reducible refine (LC.out _).mono ?_); rintro e w7 ⟨rfl, rfl⟩)); go_ret; exact ⟨ret_bool (by rw [HR.out]), Bl.refl _⟩
 · have hs3 : s.length ≤ 3000 := by omega
   rw [decide_eq_false h3] at LC; have h0 := TokL_ck s hs3; have hsz := TokL_sum s; have hwt := wt_ofM (TokL s); have hszt := sz_flt (ofM (TokL s)); have HR := Lib.hid (show stayU s = (clL (ofM (TokL s)) && decide (tksW (fltL (ofM (TokL s))) = s)) by
    unfold stayU; rw [decide_eq_true hs3, clL_saf _ [] false (ckT_zero (ckT_ofM (TokL s) h0)).2.2]; rfl)
   have TR := Lib.hid (fun W => treeOfR_c s hs3 W); have SC := Lib.hid (fun v P W (h : NdS W P v (ofM (TokL s))) => isCleanR_c 1000000 (ofM (TokL s)) v P W (by omega) (by omega) h); have FL := Lib.hid (fun v P W (h : NdS W P v (ofM (TokL s))) => flatOf_c 1000000 (ofM (TokL s)) v P W (by omega) (by omega) h); have BC := Lib.hid (fun v W (h : TkS W v (fltL (ofM (TokL s)))) => tokenBytes_c (fltL (ofM (TokL s))) v (by omega) (flt_k3 (ofM (TokL s))) W h); obtain ⟨B, hB⟩ : ∃ B, B = tksW (fltL (ofM (TokL s))) := ⟨_, rfl⟩; obtain ⟨sf, hsf⟩ : ∃ sf, sf = clL (ofM (TokL s)) := ⟨_, rfl⟩; rw [← hB] at BC HR; rw [← hsf] at SC HR; have HB := Lib.hid (str_eqb B s); obtain ⟨q, hq⟩ : ∃ q, q = decide (B = s) := ⟨_, rfl⟩; rw [← hq] at HB HR; clear h3 hs3 h0 hsz hwt hszt hB hsf hq; have hbs := HB.out; cases sf with
   | false =>
     go_enter Tryz.func30, Tryz.ntmps30; go_wp2_with (first | (go_at_call 27; (with_reducible refine (LC.out _).mono ?_); rintro e w7 ⟨rfl, rfl⟩) | (go_at_call 35; (with_reducible refine (TR.out _).mono ?_); rintro e w2 ⟨v2, rfl, ⟨Q2, hN2⟩, hb2⟩) | (go_at_call 62; (with_reducible refine (SC.out _ _ _ hN2).mono ?_); rintro e w3 ⟨rfl, hb3⟩; have hN3 := hN2.of_bl hb3)); go_ret; exact ⟨ret_bool (by rw [HR.out]; rfl), hb2.trans hb3⟩
   | true =>
     go_enter Tryz.func30, Tryz.ntmps30; go_wp2_with (first | (go_at_call 27; (with_reducible refine (LC.out _).mono ?_); rintro e w7 ⟨rfl, rfl⟩) | (go_at_call 35; (with_reducible refine (TR.out _).mono ?_); rintro e w2 ⟨v2, rfl, ⟨Q2, hN2⟩, hb2⟩) | (go_at_call 62; (with_reducible refine (SC.out _ _ _ hN2).mono ?_); rintro e w3 ⟨rfl, hb3⟩; have hN3 := hN2.of_bl hb3) | (go_at_call 64; (with_reducible refine (FL.out _ _ _ hN3).mono ?_); rintro e w4 ⟨v4, rfl, hT4', hb4⟩; have hT4 := hT4'.tks; clear hT4') | (go_at_call 63; (with_reducible refine (BC.out _ _ hT4).mono ?_); rintro e w5 ⟨rfl, hb5⟩)); go_ret; exact ⟨ret_bool (by rw [HR.out]; rfl), ((hb2.trans hb3).trans hb4).trans hb5⟩
end Go.Proofs.YtamdlihgecpbkaaGreatDoor

/- Words: the law FindTells. -/
import Derived.Test.YtamdlihgecpbkaaGreatDoorFdK
import Derived.Test.YtamdlihgecpbkaaGreatDoorGrpU
import Derived.Test.YtamdlihgecpbkaaGreatDoorGrpZ
set_option maxRecDepth 100000
set_option maxHeartbeats 8000000
namespace Go.Proofs.YtamdlihgecpbkaaGreatDoor
open Go.RowKit
theorem fdAll_c (s : Shf) (q : Nm) (v : Value) (hI : ∀ x ∈ s.1, (eI x).length ≤ 9223372036854775807) (w : World) (hE : ES w) (hM : ML w) (hS : ShS w v s) :
 Calls Tryz.prog 8 #[v, .string ⟨q.toArray⟩] w fun e w' => ∃ a n c, e = .returned (.tuple #[.slice a n c, .int .i64 (alE s q)]) ∧ StS w' (.slice a n c) (alS s q) ∧ Bl w w' := by
 by_cases h : alE s q = 0
 · have hck : ckS s = 0 := Classical.byContradiction fun e => by unfold alE at h; rw [if_neg e] at h; exact e h
   have hwd : wdE q = 0 := by unfold alE at h; rw [if_pos hck] at h; exact h
   refine (fdAll_ok s q v hI hck hwd w hE hM hS).mono ?_; rintro e w' ⟨v', rfl, hT, hb⟩; have hT2 := hT; obtain ⟨a, c, rfl, -, -⟩ := hT; exact ⟨a, _, c, by rw [h], by unfold alS; rw [if_pos h]; exact hT2, hb⟩
 · refine (fdAll_bad s q v hI h w hE hM hS).mono ?_; rintro e w' ⟨rfl, hb⟩; exact ⟨none, 0, 0, rfl, by unfold alS; rw [if_neg h]; exact ⟨none, 0, rfl, Nat.le_refl _, fun i hi => absurd hi (by simp)⟩, hb⟩
theorem alE_ok {s : Shf} {q : Nm} (h : alE s q = 0) : ckS s = 0 ∧ wdE q = 0 := by
 have hck : ckS s = 0 := Classical.byContradiction fun e => by unfold alE at h; rw [if_neg e] at h; exact e h
 exact ⟨hck, by unfold alE at h; rw [if_pos hck] at h; exact h⟩
theorem hsE_ok {x : Ent} {q : Nm} (h : hsE x q = 0) : chkE x = 0 ∧ wdE q = 0 := by
 have hck : chkE x = 0 := Classical.byContradiction fun e => by unfold hsE at h; rw [if_neg e] at h; exact e h
 exact ⟨hck, by unfold hsE at h; rw [if_pos hck] at h; exact h⟩
theorem tooL_ws (h : Nm) : tooL h = if 3000 < h.length then 2 else 0 := rfl
theorem fdTells_c (h : Nm) (x : Ent) (s : Shf) (q : Nm) (v : Value) (hI : ∀ x ∈ s.1, (eI x).length ≤ 9223372036854775807) (w : World) (hE : ES w) (hM : ML w) (hS : ShS w v s) :
 Calls Tryz.prog 3 #[.string ⟨h.toArray⟩, enV x, v, .string ⟨q.toArray⟩] w fun e w' => e = .returned (.bool true) ∧ Bl w w' := by
 have WC := Lib.hid (fun W h1 h2 => fdWords_c h W h1 h2); rw [← tooL_ws] at WC; have HC := Lib.hid (fun W h1 h2 => fdHas_c x q W h1 h2); have AC := Lib.hid (fun W h1 h2 h3 => fdAll_c s q v hI W h1 h2 h3); have TL := Lib.hid (fun W => tooLong_c h W); have CE := Lib.hid (fun W => chkER_c x W); have CS := Lib.hid (fun W h1 => checkShR_c s v W h1); have HE := Lib.hid (fun W (hb : Bl w W) => hE.of_bl hb); have HM := Lib.hid (fun W (hb : Bl w W) => hM.of_bl hb); have HS := Lib.hid (fun W (hb : Bl w W) => hS.of_bl hb); have WR := Lib.hid (fun (e : tooL h = 0) W => (show Calls Tryz.prog 12 #[.string ⟨h.toArray⟩] W (fun e w' => e = .returned (.string ⟨(wsT h).toArray⟩) ∧ Bl W w') from by
  have hl : ¬ 3000 < h.length := fun c => by rw [tooL_ws, if_pos c] at e; exact absurd e (by decide)
  unfold wsT; rw [if_neg hl]; exact wordsOfR_c h (by omega) W))
 have WN := Lib.hid (show tooL h ≠ 0 → wsT h = [] from fun e => by
  unfold wsT; by_cases hl : 3000 < h.length
  · rw [if_pos hl]
  · rw [tooL_ws, if_neg hl] at e; exact absurd rfl e)
 obtain ⟨E1, hE1⟩ : ∃ E, E = tooL h := ⟨_, rfl⟩; obtain ⟨A, hA⟩ : ∃ A, A = wsT h := ⟨_, rfl⟩; rw [← hE1, ← hA] at WC; rw [← hE1] at TL WN WR; rw [← hA] at WN WR; have HD1 := Lib.hid (show wdE q = if q = [] then 1 else if 60 < q.length then 2 else 0 from rfl); have HX := Lib.hid (show hsE x q = if chkE x = 0 then wdE q else chkE x from rfl); have HY := Lib.hid (show alE s q = if ckS s = 0 then wdE q else ckS s from rfl); have hB0 := B5.new w x 23; unfold enO at hB0; unfold enV at HC CE ⊢; obtain ⟨ve, vr, rfl, hEn, hRd⟩ := hS; obtain ⟨ao, cap, rfl, hcap, -⟩ := hEn; obtain ⟨ar, cr, rfl, hcr, -⟩ := hRd; have hp0 := heap_alloc_new (w.alloc (.cells #[.string ⟨(eI x).toArray⟩, .string ⟨(eT x).toArray⟩, .string ⟨(eL x).toArray⟩, .int .i64 (eA x), .string ⟨(eH x).toArray⟩] 23)) (.cells #[.slice ao s.1.length cap, .slice ar s.2.length cr] 27); rw [show (w.alloc (.cells #[.string ⟨(eI x).toArray⟩, .string ⟨(eT x).toArray⟩, .string ⟨(eL x).toArray⟩, .int .i64 (eA x), .string ⟨(eH x).toArray⟩] 23)).heap.size = w.heap.size + 1 by simp] at hp0; have hB1 := hB0.of_bl ((Bl.refl _).alloc (.cells #[.slice ao s.1.length cap, .slice ar s.2.length cr] 27)); have Q5 := Lib.hid hB1; have Q6 := Lib.hid hp0; clear hE hM hE1 hA hB0 hp0 hB1; go_enter Tryz.func3, Tryz.ntmps3; go_upto_region 4 with (first | (go_at_call 6; (with_reducible refine (WC.out _ ?_ ?_).mono ?_); (exact HE.out _ (((Bl.refl _).alloc _).alloc _)); (exact HM.out _ (((Bl.refl _).alloc _).alloc _)); rintro e w1 ⟨rfl, hb1⟩; have hw1 : Bl w w1 := Bl.trans (((Bl.refl _).alloc _).alloc _) hb1; have R5 := Lib.hid (Q5.out.of_bl hb1); have R6 := Lib.hid (keep_bl Q6.out hb1); obtain ⟨l5, y0, y1, y2, y3, y4⟩ := R5.out; obtain ⟨l6, z0, z1⟩ := keep_cells R6.out) | (go_at_call 7; (with_reducible refine (HC.out _ (HE.out _ hw1) (HM.out _ hw1)).mono ?_); rintro e w2 ⟨rfl, hb2⟩; have hw2 := hw1.trans hb2; have S5 := Lib.hid (R5.out.of_bl hb2); have S6 := Lib.hid (keep_bl R6.out hb2); clear l5 y0 y1 y2 y3 y4 l6 z0 z1; obtain ⟨l5, y0, y1, y2, y3, y4⟩ := S5.out; obtain ⟨l6, z0, z1⟩ := keep_cells S6.out) | (go_at_call 8; (with_reducible refine (AC.out _ (HE.out _ hw2) (HM.out _ hw2) (HS.out _ hw2)).mono ?_); rintro e w3 ⟨va, vn, vc, rfl, hT3, hb3⟩; have hw3 := hw2.trans hb3; have HT3 := Lib.hid hT3; have T5 := Lib.hid (S5.out.of_bl hb3); have T6 := Lib.hid (keep_bl S6.out hb3); clear l5 y0 y1 y2 y3 y4 l6 z0 z1 hT3; obtain ⟨l5, y0, y1, y2, y3, y4⟩ := T5.out; obtain ⟨l6, z0, z1⟩ := keep_cells T6.out)); clear WC HC AC Q5 Q6 R5 R6 S5 S6 hb1 hb2 hb3 hw1 hw2; have BP : Bl w3 w3 := Bl.refl _; go_cut [15, 16, 17] from 39 to 44 (fun a b c wx => a = .int .i64 E1 ∧ b = .int .i64 (chkE x) ∧ c = .int .i64 (ckS s) ∧ Bl w3 wx); case first =>
  go_region_with (first | (go_at_call 9; (with_reducible refine (TL.out _).mono ?_); rintro e w7 ⟨rfl, rfl⟩) | (go_at_call 10; (with_reducible refine (CE.out _).mono ?_); rintro e w8 ⟨rfl, hb8⟩; replace BP : Bl w3 w8 := Bl.trans BP (Bl.trans Bl.z hb8); clear l5 y0 y1 y2 y3 y4 l6 z0 z1; obtain ⟨l5, y0, y1, y2, y3, y4⟩ := T5.out.of_bl BP; obtain ⟨l6, z0, z1⟩ := keep_cells (keep_bl T6.out BP)) | (go_at_call 11; (with_reducible refine (CS.out _ ?_).mono ?_); (exact HS.out _ (hw3.trans (Bl.trans BP Bl.z))); rintro e w9 ⟨rfl, hb9⟩; replace BP : Bl w3 w9 := Bl.trans BP (Bl.trans Bl.z hb9); clear l5 y0 y1 y2 y3 y4 l6 z0 z1; obtain ⟨l5, y0, y1, y2, y3, y4⟩ := T5.out.of_bl BP; obtain ⟨l6, z0, z1⟩ := keep_cells (keep_bl T6.out BP))); all_goals
   go_wp2_with fail; go_meet; case rel => exact ⟨rfl, rfl, rfl, Bl.trans BP Bl.z⟩
 case rest =>
  obtain ⟨rfl, rfl, rfl, hb4⟩ := hcut; clear l5 y0 y1 y2 y3 y4 l6 z0 z1 TL CE CS BP; obtain ⟨w4, hw4⟩ : ∃ w4, w4 = wc := ⟨_, rfl⟩; subst hw4; obtain ⟨D, hD⟩ : ∃ D, D = wdE q := ⟨_, rfl⟩; obtain ⟨X1, hX1⟩ : ∃ X, X = chkE x := ⟨_, rfl⟩; obtain ⟨X2, hX2⟩ : ∃ X, X = hsE x q := ⟨_, rfl⟩; obtain ⟨Y1, hY1⟩ : ∃ X, X = ckS s := ⟨_, rfl⟩; obtain ⟨Y2, hY2⟩ : ∃ X, X = alE s q := ⟨_, rfl⟩; rw [← hX1, ← hX2, ← hD] at HX; rw [← hY1, ← hY2, ← hD] at HY; rw [← hD] at HD1; rw [← hX1]; rw [← hX2]; rw [← hY1, ← hY2]; have HX1 := Lib.hid hX1; have HX2 := Lib.hid hX2; have HY1 := Lib.hid hY1; have HY2 := Lib.hid hY2; have HDD := Lib.hid hD; clear hX1 hX2 hY1 hY2 hD
  go_upto_if 46 with fail
  go_cut [18] from 46 to 49 (fun d wx => d = .int .i64 D ∧ w4 = wx); case first =>
   by_cases h1 : q = []
   · have HR := Lib.hid (show D = 1 by rw [HD1.out, if_pos h1]); subst h1; go_wp2; go_meet; case rel => exact ⟨by rw [HR.out], rfl⟩
   · have hx := emp h1; by_cases h6 : 60 < q.length
     · have h6' : (60 : Int) < (q.length : Int) := by omega
       have HR := Lib.hid (show D = 2 by rw [HD1.out, if_neg h1, if_pos h6]); clear h1 h6; go_wp2; all_goals first | (exfalso; rename_i hh; rw [hx] at hh; exact absurd hh (by decide)) | (go_meet; (case rel => exact ⟨by rw [HR.out], rfl⟩))
     · have h6' : ¬ (60 : Int) < (q.length : Int) := by omega
       have HR := Lib.hid (show D = 0 by rw [HD1.out, if_neg h1, if_neg h6]); clear h1 h6; go_wp2; all_goals first | (exfalso; rename_i hh; rw [hx] at hh; exact absurd hh (by decide)) | (go_meet; (case rel => exact ⟨by rw [HR.out], rfl⟩))
  case rest =>
   obtain ⟨rfl, rfl⟩ := hcut
   go_upto_if 51 with fail
   go_cut [16] from 51 to 52 (fun d wx => d = .int .i64 X2 ∧ w4 = wx); case first =>
    by_cases h1 : X1 = 0
    · have HR := Lib.hid (show X2 = D by rw [HX.out, if_pos h1]); have hb : (X1 == 0) = true := by simpa using h1
      clear h1; go_wp2; go_meet; case rel => exact ⟨by rw [HR.out], rfl⟩
    · have HR := Lib.hid (show X2 = X1 by rw [HX.out, if_neg h1]); have hb : (X1 == 0) = false := by simpa using h1
      clear h1; go_wp2; go_meet; case rel => exact ⟨by rw [HR.out], rfl⟩
   case rest =>
    obtain ⟨rfl, rfl⟩ := hcut
    go_upto_if 54 with fail
    go_cut [17] from 54 to 55 (fun d wx => d = .int .i64 Y2 ∧ w4 = wx); case first =>
     by_cases h1 : Y1 = 0
     · have HR := Lib.hid (show Y2 = D by rw [HY.out, if_pos h1]); have hb : (Y1 == 0) = true := by simpa using h1
       clear h1; go_wp2; go_meet; case rel => exact ⟨by rw [HR.out], rfl⟩
     · have HR := Lib.hid (show Y2 = Y1 by rw [HY.out, if_neg h1]); have hb : (Y1 == 0) = false := by simpa using h1
       clear h1; go_wp2; go_meet; case rel => exact ⟨by rw [HR.out], rfl⟩
    case rest =>
     obtain ⟨rfl, rfl⟩ := hcut
     go_upto_if 57 with fail
     go_cut [19] from 57 to 59 (fun d wx => d = .string ⟨A.toArray⟩ ∧ Bl w4 wx); case first =>
      by_cases h1 : E1 = 0
      · have WR2 := Lib.hid (WR.out h1); have hb : (E1 == 0) = true := by simpa using h1
        clear h1; go_wp2_with (go_at_call 12; (with_reducible refine (WR2.out _).mono ?_); rintro e w7 ⟨rfl, hb7⟩); go_meet; case rel => exact ⟨rfl, hb7⟩
      · have HR := Lib.hid (WN.out h1); have hb : (E1 == 0) = false := by simpa using h1
        clear h1; go_wp2; go_meet; case rel => exact ⟨by rw [HR.out], Bl.refl _⟩
     case rest =>
      obtain ⟨rfl, hb5⟩ := hcut; obtain ⟨w5, hw5⟩ : ∃ w5, w5 = wc := ⟨_, rfl⟩; subst hw5; have hb45 := hb4.trans hb5; clear hb4 hb5; obtain ⟨cB, hcB⟩ : ∃ c, c = hsB x q := ⟨_, rfl⟩; rw [← hcB]; have HCB1 := Lib.hid (show X2 = 0 → cB = inW x q from fun e => by rw [hcB]; unfold hsB; rw [decide_eq_true (HX2.out.symm.trans e)]; rfl); have HCB2 := Lib.hid (show X2 ≠ 0 → cB = false from fun e => by rw [hcB]; unfold hsB; rw [decide_eq_false (fun h => e (HX2.out.trans h))]; rfl); have HAS0 := Lib.hid (show Y2 = 0 → alS s q = alL s q from fun e => by unfold alS; rw [if_pos (HY2.out.symm.trans e)]); have HAS1 := Lib.hid (show Y2 ≠ 0 → alS s q = [] from fun e => by unfold alS; rw [if_neg (fun h => e (HY2.out.trans h))]); have HOK := Lib.hid (show Y2 = 0 → ckS s = 0 ∧ wdE q = 0 from fun e => alE_ok (HY2.out.symm.trans e)); have hasl : (alS s q).length ≤ 1099511627776 := by
       by_cases e : Y2 = 0
       · rw [HAS0.out e]; obtain ⟨h20, -⟩ := (ckS_iff s).1 (HOK.out e).1; have := List.length_filter_le (fun x => inW x q) s.1; unfold alL; rw [List.length_map]; omega
       · rw [HAS1.out e]; decide
      have SC := Lib.hid (fun va vb W h1 h2 => (show Calls Tryz.prog 15 #[va, vb] W (fun e w' => e = .returned (.bool true) ∧ Qt W w') from by have h := sameT_c (alS s q) (alS s q) va vb hasl W h1 h2; rw [decide_eq_true rfl] at h; exact h)); have FB := Lib.hid (fun W h1 h2 => findBegun_c W h1 h2); have HCH := Lib.hid (show Y2 = 0 → ∀ k (hk : k < s.1.length) W, Calls Tryz.prog 13 #[enV s.1[k], .string ⟨q.toArray⟩] W (fun e w' => e = .returned (.bool (inW s.1[k] q)) ∧ Bl W w') from fun e k hk W => by
       obtain ⟨h1, h2⟩ := HOK.out e; obtain ⟨h3, h4⟩ := wdE_zero h2; exact fdHasR_c s.1[k] q (((ckS_iff s).1 h1).2.2.1.2.2 _ (List.getElem_mem hk)) h3 h4 W)
      unfold enV at HCH; have HN20 := Lib.hid (show Y2 = 0 → s.1.length ≤ 20 from fun e => ((ckS_iff s).1 (HOK.out e).1).1); obtain ⟨i0, hi, hz0, hz1, hz2⟩ := info_parts Tryz.infoStr; have HSH := Lib.hid (HS.out _ (hw3.trans hb45)); clear hcB hasl WR WN HD1 HX HY; go_wp2; go_loopw [20, 21] (fun u i wr => ∃ k : Nat, k ≤ s.1.length ∧ i = .int .i64 k ∧ Hid (k ≠ 0 → Y2 = 0) ∧ Hid (StO wr w5.heap.size u (alA s q k)) ∧ Bl w5 wr) (fun _ i _ => s.1.length - (intOf i).toNat); case atStart => exact ⟨0, Nat.zero_le _, rfl, Lib.hid (fun h => absurd rfl h), Lib.hid (sto_none _ _), Bl.refl _⟩
      case round =>
       obtain ⟨k, hk, rfl, HK0, HU, hbl⟩ := hrel; obtain ⟨au, cu, rfl, hcu⟩ := own_shp HU.out; have T6r := keep_bl (keep_bl T6.out hb45) hbl; obtain ⟨l6, z0, z1⟩ := keep_cells T6r; clear T6r; by_cases hy : Y2 = 0
       · have hyb : (Y2 == 0) = true := by simpa using hy
         have HCK := Lib.hid (HCH.out hy); have HA0 := Lib.hid (HAS0.out hy); have hn20 := HN20.out hy; have HY0 := Lib.hid hy; clear hy; by_cases hlt : k < s.1.length
         · obtain ⟨ve', vr', e1, hEn, -⟩ := HSH.out; cases e1; obtain ⟨a', c', e', -, hA⟩ := hEn; cases e'; obtain ⟨g, o, rfl, hg, h1, h2, h3, h4, h5⟩ := hA k hlt; have hgr : g < wr.heap.size := Nat.lt_of_lt_of_le hg (Below.size hbl); have x1 := (hbl.cells.1 g _ hg).trans h1; have x2 := (hbl.cells.1 g _ hg).trans h2; have x3 := (hbl.cells.1 g _ hg).trans h3; have x4 := (hbl.cells.1 g _ hg).trans h4; have x5 := (hbl.cells.1 g _ hg).trans h5; clear h2 h3 h4 h5 hA; have HN := Lib.hid (alA_next s q k hlt); have hul := alA_len s q k; have WK := Lib.hid (fun W => HCK.out k hlt W); have HX1' := Lib.hid h1; clear h1; obtain ⟨inn, hin⟩ : ∃ b, b = inW s.1[k] q := ⟨_, rfl⟩; rw [← hin] at WK HN; clear hin; cases inn
           · go_wp2_with (go_at_call 13; (with_reducible refine (WK.out _).mono ?_); rintro e w7 ⟨rfl, hb7⟩); go_roundw; case rel => exact ⟨k + 1, by omega, by go_num, Lib.hid (fun _ => HY0.out), Lib.hid (by rw [HN.out]; simpa using HU.out.of_bl hb7), hbl.trans hb7⟩
             case measure => simp [intOf]; omega
           · go_wp2_with (first | (go_at_call 13; (with_reducible refine (WK.out _).mono ?_); rintro e w7 ⟨rfl, hb7⟩; have v1 := (((hbl.trans hb7).cells.1 g _ hg).trans HX1'.out); have hg7 : g < w7.heap.size := Nat.lt_of_lt_of_le hgr (Below.size hb7); clear l6 z0 z1; obtain ⟨l6, z0, z1⟩ := keep_cells (keep_bl (keep_bl T6.out hb45) (hbl.trans hb7)); have HU4 := Lib.hid (HU.out.of_bl hb7); have hb04 := hbl.trans hb7) | (at_builtin; refine wpList_append_own _ rfl _ _ 25 rfl w5.heap.size 9 i0 (.string ⟨#[]⟩) 1 16 Tryz.underlying25 hi hz0 hz1 hz2 rfl (by decide) (.slice au (alA s q k).length cu) (alA s q k).length (strV (alA s q k)) rfl ?_ ⟨w7.heap.size, 0, none⟩ 1 1 ([.string ⟨(eI s.1[k]).toArray⟩] : List Value) rfl rfl ?_ (strQ_one (eI s.1[k])) ?_ ?_ ?_ ?_; (exact HU4.out.of_bl ((Bl.refl _).alloc _)); (exact str_news w7 _); (unfold maxLen; omega); omega; (exact Nat.le_trans (Below.size hb04) (by simp)); intro v8 w8 hown8 hgr8 _)); go_roundw; case rel =>
              refine ⟨k + 1, by omega, by go_num, Lib.hid (fun _ => HY0.out), Lib.hid ?_, ?_⟩
              · rw [HN.out]; unfold StO; rw [strV_app]; simp only [if_true, List.length_append, List.length_singleton]; exact hown8
              · exact Below.trans (hb04.alloc _) (gr_below hgr8 (Nat.le_trans (Below.size hb04) (by simp)) (fun q hq => (own_bas HU4.out hq).1))
             case measure => simp [intOf]; omega
         · obtain rfl : k = s.1.length := by omega
           have HTU := Lib.hid (show StS wr _ (alS s q) from by rw [HA0.out, ← alA_all s q]; exact HU.out.sts); have R5 := Lib.hid ((T5.out.of_bl hb45).of_bl hbl); obtain ⟨l5, y0, y1, y2, y3, y4⟩ := R5.out; by_cases hx2 : X2 = 0
           · have HC2 := Lib.hid (fun W => fdHasR_c x q (hsE_ok (HX2.out.symm.trans hx2)).1 (wdE_zero (hsE_ok (HX2.out.symm.trans hx2)).2).1 (wdE_zero (hsE_ok (HX2.out.symm.trans hx2)).2).2 W); unfold enV at HC2; rw [(HCB1.out hx2).symm] at HC2; have hxb : (X2 == 0) = true := by simpa using hx2
             clear hx2; go_wp2_with (first | (go_at_call 14; (with_reducible refine (FB.out _ (HE.out _ (hw3.trans (hb45.trans hbl))) (HM.out _ (hw3.trans (hb45.trans hbl)))).mono ?_); rintro e w7 ⟨rfl, hb7⟩; clear l5 y0 y1 y2 y3 y4; obtain ⟨l5, y0, y1, y2, y3, y4⟩ := R5.out.of_bl hb7) | (go_at_call 13; (with_reducible refine (HC2.out _).mono ?_); rintro e w8 ⟨rfl, hb8⟩) | (go_at_call 15; (with_reducible refine (SC.out _ _ _ ?_ ?_).mono ?_); (exact HT3.out.of_bl (hb45.trans (hbl.trans (hb7.trans hb8)))); (exact HTU.out.of_bl (hb7.trans hb8)); rintro e w9 ⟨rfl, hq9⟩)); go_ret; exact ⟨rfl, hw3.trans (hb45.trans (hbl.trans ((hb7.trans hb8).trans hq9.bl)))⟩
           · have HR := Lib.hid (HCB2.out hx2); have hxb : (X2 == 0) = false := by simpa using hx2
             obtain rfl : cB = false := HR.out; clear hx2 HR; go_wp2_with (first | (go_at_call 14; (with_reducible refine (FB.out _ (HE.out _ (hw3.trans (hb45.trans hbl))) (HM.out _ (hw3.trans (hb45.trans hbl)))).mono ?_); rintro e w7 ⟨rfl, hb7⟩) | (go_at_call 15; (with_reducible refine (SC.out _ _ _ ?_ ?_).mono ?_); (exact HT3.out.of_bl (hb45.trans (hbl.trans hb7))); (exact HTU.out.of_bl hb7); rintro e w9 ⟨rfl, hq9⟩)); go_ret; exact ⟨rfl, hw3.trans (hb45.trans (hbl.trans (hb7.trans hq9.bl)))⟩
       · have hyb : (Y2 == 0) = false := by simpa using hy
         have hk0 : k = 0 := Classical.byContradiction fun e => hy (HK0.out e)
         have HA1 := Lib.hid (HAS1.out hy); subst hk0; have HTU := Lib.hid (show StS wr _ (alS s q) from by rw [HA1.out]; exact HU.out.sts); clear hy; by_cases hlt : 0 < s.1.length; all_goals
          have R5 := Lib.hid ((T5.out.of_bl hb45).of_bl hbl); obtain ⟨l5, y0, y1, y2, y3, y4⟩ := R5.out; by_cases hx2 : X2 = 0
          · have HC2 := Lib.hid (fun W => fdHasR_c x q (hsE_ok (HX2.out.symm.trans hx2)).1 (wdE_zero (hsE_ok (HX2.out.symm.trans hx2)).2).1 (wdE_zero (hsE_ok (HX2.out.symm.trans hx2)).2).2 W); unfold enV at HC2; rw [(HCB1.out hx2).symm] at HC2; have hxb : (X2 == 0) = true := by simpa using hx2
            clear hx2; go_wp2_with (first | (go_at_call 14; (with_reducible refine (FB.out _ (HE.out _ (hw3.trans (hb45.trans hbl))) (HM.out _ (hw3.trans (hb45.trans hbl)))).mono ?_); rintro e w7 ⟨rfl, hb7⟩; clear l5 y0 y1 y2 y3 y4; obtain ⟨l5, y0, y1, y2, y3, y4⟩ := R5.out.of_bl hb7) | (go_at_call 13; (with_reducible refine (HC2.out _).mono ?_); rintro e w8 ⟨rfl, hb8⟩) | (go_at_call 15; (with_reducible refine (SC.out _ _ _ ?_ ?_).mono ?_); (exact HT3.out.of_bl (hb45.trans (hbl.trans (hb7.trans hb8)))); (exact HTU.out.of_bl (hb7.trans hb8)); rintro e w9 ⟨rfl, hq9⟩)); go_ret; exact ⟨rfl, hw3.trans (hb45.trans (hbl.trans ((hb7.trans hb8).trans hq9.bl)))⟩
          · have HR := Lib.hid (HCB2.out hx2); have hxb : (X2 == 0) = false := by simpa using hx2
            obtain rfl : cB = false := HR.out; clear hx2 HR; go_wp2_with (first | (go_at_call 14; (with_reducible refine (FB.out _ (HE.out _ (hw3.trans (hb45.trans hbl))) (HM.out _ (hw3.trans (hb45.trans hbl)))).mono ?_); rintro e w7 ⟨rfl, hb7⟩) | (go_at_call 15; (with_reducible refine (SC.out _ _ _ ?_ ?_).mono ?_); (exact HT3.out.of_bl (hb45.trans (hbl.trans hb7))); (exact HTU.out.of_bl hb7); rintro e w9 ⟨rfl, hq9⟩)); go_ret; exact ⟨rfl, hw3.trans (hb45.trans (hbl.trans (hb7.trans hq9.bl)))⟩
end Go.Proofs.YtamdlihgecpbkaaGreatDoor

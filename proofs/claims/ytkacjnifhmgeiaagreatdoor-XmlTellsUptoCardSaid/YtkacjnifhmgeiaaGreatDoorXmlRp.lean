/- Documents, the reference: checkXml. -/
import Derived.Test.YtkacjnifhmgeiaaGreatDoorGrpP
import Derived.Test.YtkacjnifhmgeiaaGreatDoorXmlRd
namespace Go.Proofs.YtkacjnifhmgeiaaGreatDoor
open Go.RowKit

set_option maxRecDepth 100000 in
set_option maxHeartbeats 8000000 in
theorem checkXmlN_c (N : Nat) : ∀ (d : Nd) (va vk : Value) (P : Nat → Prop) (w : World), wtN d < N → N ≤ 10000000 → AtP w P va d.a → NdS w P vk d.k →
    Calls Tryz.prog 20 #[.agg #[.string ⟨d.n.toArray⟩, va, .string ⟨d.x.toArray⟩, vk]] w fun e w' => e = .returned (.int .i64 (cxN false d)) ∧ Bl w w' := by
  induction N with
  | zero => intro d va vk P w h; omega
  | succ N ih =>
    intro d va vk P w hN hN2 hA hK
    have hw := wtN_mk d
    have hla := wtA_len d.a
    have AC := Lib.hid (fun W (hb : Bl w W) => checkAttrsT_c d.a va (by omega) (fun a ha => by have := wtA_get d.a a ha; omega) W (hA.ats.of_bl hb))
    have TC := Lib.hid (fun W => isTitle_c d.n (by omega) W)
    obtain ⟨ao, ac, rfl, -⟩ := id hA
    have HKN := Lib.hid hK
    obtain ⟨ko, kc, rfl, hkc, hK⟩ := hK.get
    have IH := Lib.hid ih
    have HK := Lib.hid hK
    clear ih hK hA
    have hal : d.a ≠ [] → (0 : Int) < (d.a.length : Int) := fun h => by have := List.length_pos_iff.2 h; omega
    have hkl : d.k ≠ [] → (0 : Int) < (d.k.length : Int) := fun h => by have := List.length_pos_iff.2 h; omega
    by_cases hn : d.n = []
    · have hne : d.n.isEmpty = true := by simp [hn]
      by_cases h1 : d.x = []
      · have hx : d.x.isEmpty = true := by simp [h1]
        have HE := Lib.hid (cxN_txt_no hn (Or.inl h1))
        clear hn h1 hal hkl
        go_enter Tryz.func20, Tryz.ntmps20
        go_wp2
        go_ret
        exact ⟨by rw [HE.out]; rfl, (Bl.refl _).alloc _⟩
      · have hx : d.x.isEmpty = false := emp2 h1
        by_cases h2 : d.a = []
        · rw [show d.a.length = 0 by simp [h2]]
          by_cases h3 : d.k = []
          · rw [show d.k.length = 0 by simp [h3]]
            have HE := Lib.hid (cxN_txt hn h1 h2 h3)
            clear hn h1 hal hkl h2 h3
            go_enter Tryz.func20, Tryz.ntmps20
            go_wp2
            go_ret
            exact ⟨by rw [HE.out]; rfl, (Bl.refl _).alloc _⟩
          · obtain ⟨km, hkm⟩ : ∃ m, d.k.length = m + 1 := ⟨d.k.length - 1, by have := hkl h3; omega⟩
            have hkm2 : km + 1 ≤ 20000000 := by have := cnt_len d.k; have := wt_cnt d.k; omega
            rw [hkm]
            clear hkm hkc HK HKN
            have HE := Lib.hid (cxN_txt_no hn (Or.inr (Or.inr h3)))
            clear hn h1 hal hkl h2 h3
            go_enter Tryz.func20, Tryz.ntmps20
            go_wp2
            go_ret
            exact ⟨by rw [HE.out]; rfl, (Bl.refl _).alloc _⟩
        · obtain ⟨am, ham⟩ : ∃ m, d.a.length = m + 1 := ⟨d.a.length - 1, by have := hal h2; omega⟩
          have ham2 : am + 1 ≤ 20000000 := by omega
          have hkk2 : d.k.length ≤ 20000000 := by have := cnt_len d.k; have := wt_cnt d.k; omega
          rw [ham]
          clear ham AC
          have HE := Lib.hid (cxN_txt_no hn (Or.inr (Or.inl h2)))
          clear hn h1 hal hkl h2
          go_enter Tryz.func20, Tryz.ntmps20
          go_wp2
          go_ret
          exact ⟨by rw [HE.out]; rfl, (Bl.refl _).alloc _⟩
    · have hne : d.n.isEmpty = false := emp2 hn
      by_cases h1 : d.x = []
      · have hx : d.x.isEmpty = true := by simp [h1]
        cases hT : isTi d.n
        · rw [hT] at TC
          have HE := Lib.hid (cxN_form hn (Or.inr hT))
          clear hn h1 hal hkl hT
          go_enter Tryz.func20, Tryz.ntmps20
          go_wp2_with (go_at_call 40; (with_reducible refine (TC.out _).mono ?_); rintro e w7 ⟨rfl, rfl⟩)
          go_ret
          exact ⟨by rw [HE.out]; rfl, (Bl.refl _).alloc _⟩
        · rw [hT] at TC
          by_cases h3 : atX d.a = 0
          · have HE := Lib.hid (cxN_kids hn h1 hT h3)
            rw [h3] at AC
            have hll := cnt_len d.k
            have hlc := wt_cnt d.k
            clear hn h1 hal hkl hT h3
            go_enter Tryz.func20, Tryz.ntmps20
            go_wp2_with (first | (go_at_call 40; (with_reducible refine (TC.out _).mono ?_); rintro e w7 ⟨rfl, rfl⟩) | (go_at_call 41; (with_reducible refine (AC.out _ ((Bl.refl _).alloc _)).mono ?_); rintro e w8 ⟨rfl, hb8⟩; have hP8 := (nb_par w d.n d.x ao d.a.length ac ko d.k.length kc).of_bl hb8; obtain ⟨p0, p1, p2, p3, -⟩ := hP8.cells))
            have hw8 : Bl w w8 := ((Bl.refl _).alloc _).trans hb8
            have hz8 : w.heap.size < w8.heap.size := by have h2 := Below.size hb8; rw [alloc_size] at h2; omega
            go_loopw [3, 4] (fun ev i wr => ∃ k : Nat, k ≤ d.k.length ∧ i = .int .i64 k ∧ Bl w8 wr ∧ ((ev = .int .i64 0 ∧ Hid (cxL false d.k = cxL (pvX d.k k) (d.k.drop k))) ∨ ∃ q : Int, ev = .int .i64 q ∧ Hid (cxL false d.k = q ∧ q ≠ 0))) (fun _ i _ => d.k.length - (intOf i).toNat)
            case atStart => exact ⟨0, Nat.zero_le _, rfl, Bl.refl _, .inl ⟨rfl, Lib.hid rfl⟩⟩
            case round =>
              obtain ⟨k, hk, rfl, hb, ⟨rfl, HP⟩ | ⟨q, rfl, HQ⟩⟩ := hrel
              · have hbw := hw8.trans hb
                have p3r := (hb.cells.1 w.heap.size 3 hz8).trans p3
                have hzr : w.heap.size < wr.heap.size := Nat.lt_of_lt_of_le hz8 (Below.size hb)
                clear p0 p1 p2 p3
                by_cases hlt : k < d.k.length
                · obtain ⟨g, o, va', vk', rfl, hg, -, h1, h2, h3, h4, h5, h6⟩ := HK.out k hlt
                  have y1 := (hbw.cells.1 g _ hg).trans h1
                  have y2 := (hbw.cells.1 g _ hg).trans h2
                  have y3 := (hbw.cells.1 g _ hg).trans h3
                  have y4 := (hbw.cells.1 g _ hg).trans h4
                  have hgr : g < wr.heap.size := Nat.lt_of_lt_of_le hg (Below.size hbw)
                  have hwt := wt_get d.k k hlt
                  have hwn := wtN_mk d.k[k]
                  have HE2 := Lib.hid (show cxL false d.k = _ from by rw [HP.out, List.drop_eq_getElem_cons hlt, cxL_step])
                  have NC := Lib.hid (fun W (hbW : Bl wr W) => IH.out d.k[k] va' vk' P W (by omega) (by omega) ((h5.still (Still.of_bl hbw)).still (Still.of_bl hbW)) ((h6.of_bl hbw).of_bl hbW))
                  obtain ⟨a1, n1, c1, rfl⟩ : ∃ a n c, va' = .slice a n c := by obtain ⟨a, c, e, -⟩ := h5; exact ⟨a, _, c, e⟩
                  obtain ⟨a2, c2, rfl⟩ : ∃ a c, vk' = .slice a d.k[k].k.length c := by obtain ⟨a, c, e, -⟩ := h6; exact ⟨a, c, e⟩
                  have hprev : 0 < k → ∃ q, wr.cell? ⟨g, o + (k - 1) * 4, none⟩ = some (.string ⟨q.toArray⟩) ∧ pvX d.k k = decide (q = []) := by
                    intro hk0
                    obtain ⟨g2, o2, _, _, e, hg2, _, x1, _⟩ := HK.out (k - 1) (by omega)
                    cases e
                    obtain ⟨j, rfl⟩ : ∃ j, k = j + 1 := ⟨k - 1, by omega⟩
                    refine ⟨_, (hbw.cells.1 g _ hg).trans x1, ?_⟩
                    simp [pvX, show j < d.k.length by omega]
                  clear h1 h2 h3 h4 h5 h6
                  by_cases he : cxN false d.k[k] = 0
                  · rw [he] at NC
                    have HE3 := Lib.hid (show cxL false d.k = _ from by rw [HE2.out, if_neg (fun h => h he)])
                    clear he HE2
                    have hcase : (∃ pq : Nm, 0 < k ∧ d.k[k].n.isEmpty = true ∧ pq.isEmpty = true ∧ wr.cell? ⟨g, o + (k - 1) * 4, none⟩ = some (.string ⟨pq.toArray⟩) ∧ Hid (cxL false d.k = 4)) ∨
                        ((0 : Int) < (k : Int) ∧ d.k[k].n.isEmpty = false ∧ Hid (cxL false d.k = cxL (decide (d.k[k].n = [])) (d.k.drop (k + 1)))) ∨
                        (¬ (0 : Int) < (k : Int) ∧ Hid (cxL false d.k = cxL (decide (d.k[k].n = [])) (d.k.drop (k + 1)))) ∨
                        (∃ pq : Nm, 0 < k ∧ d.k[k].n.isEmpty = true ∧ pq.isEmpty = false ∧ wr.cell? ⟨g, o + (k - 1) * 4, none⟩ = some (.string ⟨pq.toArray⟩) ∧ Hid (cxL false d.k = cxL (decide (d.k[k].n = [])) (d.k.drop (k + 1)))) := by
                      by_cases hn : d.k[k].n = []
                      · by_cases hk1 : 0 < k
                        · obtain ⟨pq, hp1, hp2⟩ := hprev hk1
                          by_cases hpe : pq = []
                          · exact .inl ⟨pq, hk1, by simp [hn], by simp [hpe], hp1, Lib.hid (by rw [HE3.out, if_pos ⟨by rw [hp2]; simpa using hpe, hn⟩])⟩
                          · exact .inr (.inr (.inr ⟨pq, hk1, by simp [hn], by simpa using hpe, hp1, Lib.hid (by rw [HE3.out, if_neg (fun h => by rw [hp2] at h; exact hpe (by simpa using h.1))])⟩))
                        · exact .inr (.inr (.inl ⟨by omega, Lib.hid (by rw [HE3.out, if_neg (fun h => by have h1 := h.1; rw [show k = 0 by omega] at h1; simp [pvX] at h1)])⟩))
                      · have hne2 : d.k[k].n.isEmpty = false := emp2 hn
                        have hx2 := Lib.hid (show cxL false d.k = _ from by rw [HE3.out, if_neg (fun h => hn h.2)])
                        by_cases hk1 : 0 < k
                        · exact .inr (.inl ⟨by omega, hne2, hx2⟩)
                        · exact .inr (.inr (.inl ⟨by omega, hx2⟩))
                    clear HE3 hprev
                    have hpv := Lib.hid (show pvX d.k (k + 1) = decide (d.k[k].n = []) by simp [pvX, hlt])
                    rcases hcase with ⟨pq, hk1, hne2, hpe, hp1, HR⟩ | ⟨hk1, hne2, HR⟩ | ⟨hk1, HR⟩ | ⟨pq, hk0, hne2, hpe, hp1, HR⟩
                    · have hk1' : (0 : Int) < (k : Int) := by omega
                      go_wp2_with (go_at_call 20; (with_reducible refine (NC.out _ (Bl.refl _)).mono ?_); rintro e w1 ⟨rfl, hb1⟩; have z1 := (hb1.cells.1 g _ hgr).trans y1; have q3 := (hb1.cells.1 w.heap.size 3 hzr).trans p3r; have q7 := (hb1.cells.1 g _ hgr).trans hp1)
                      go_roundw
                      case rel => exact ⟨k + 1, by omega, by go_num, hb.trans hb1, .inr ⟨4, rfl, Lib.hid ⟨HR.out, by decide⟩⟩⟩
                      case measure => simp [intOf]; omega
                    · go_wp2_with (go_at_call 20; (with_reducible refine (NC.out _ (Bl.refl _)).mono ?_); rintro e w1 ⟨rfl, hb1⟩; have z1 := (hb1.cells.1 g _ hgr).trans y1; have q3 := (hb1.cells.1 w.heap.size 3 hzr).trans p3r)
                      go_roundw
                      case rel => exact ⟨k + 1, by omega, by go_num, hb.trans hb1, .inl ⟨rfl, Lib.hid (by rw [HR.out, hpv.out])⟩⟩
                      case measure => simp [intOf]; omega
                    · have hk1d : decide ((0 : Int) < (k : Int)) = false := by simp; omega
                      go_wp2_with (go_at_call 20; (with_reducible refine (NC.out _ (Bl.refl _)).mono ?_); rintro e w1 ⟨rfl, hb1⟩; have z1 := (hb1.cells.1 g _ hgr).trans y1; have q3 := (hb1.cells.1 w.heap.size 3 hzr).trans p3r)
                      go_roundw
                      case rel => exact ⟨k + 1, by omega, by go_num, hb.trans hb1, .inl ⟨rfl, Lib.hid (by rw [HR.out, hpv.out])⟩⟩
                      case measure => simp [intOf]; omega
                    · have hk1' : (0 : Int) < (k : Int) := by omega
                      go_wp2_with (go_at_call 20; (with_reducible refine (NC.out _ (Bl.refl _)).mono ?_); rintro e w1 ⟨rfl, hb1⟩; have z1 := (hb1.cells.1 g _ hgr).trans y1; have q3 := (hb1.cells.1 w.heap.size 3 hzr).trans p3r; have q7 := (hb1.cells.1 g _ hgr).trans hp1)
                      go_roundw
                      case rel => exact ⟨k + 1, by omega, by go_num, hb.trans hb1, .inl ⟨rfl, Lib.hid (by rw [HR.out, hpv.out])⟩⟩
                      case measure => simp [intOf]; omega
                  · have HR := Lib.hid (show cxL false d.k = cxN false d.k[k] by rw [HE2.out, if_pos he])
                    obtain ⟨q, hq⟩ : ∃ q, q = cxN false d.k[k] := ⟨_, rfl⟩
                    rw [← hq] at NC he HR
                    have hq2 : (q != 0) = true := by simpa using he
                    have hq3 : (q == 0) = false := by simpa using he
                    have HQ := Lib.hid he
                    clear he hq HE2 hprev
                    go_wp2_with (go_at_call 20; (with_reducible refine (NC.out _ (Bl.refl _)).mono ?_); rintro e w1 ⟨rfl, hb1⟩; have z1 := (hb1.cells.1 g _ hgr).trans y1; have q3 := (hb1.cells.1 w.heap.size 3 hzr).trans p3r)
                    go_roundw
                    case rel => exact ⟨k + 1, by omega, by go_num, hb.trans hb1, .inr ⟨q, rfl, Lib.hid ⟨HR.out, HQ.out⟩⟩⟩
                    case measure => simp [intOf]; omega
                · have HR := Lib.hid (show cxL false d.k = 0 by rw [HP.out, List.drop_eq_nil_of_le (by omega)]; rfl)
                  go_wp2
                  go_ret
                  exact ⟨ret_int (by rw [HE.out, HR.out]), hbw⟩
              · have p3r := (hb.cells.1 w.heap.size 3 hz8).trans p3
                have hq3 : (q == 0) = false := by simpa using HQ.out.2
                have hbw := hw8.trans hb
                clear p0 p1 p2 p3
                by_cases hlt : k < d.k.length
                all_goals
                  go_wp2
                  go_ret
                  exact ⟨ret_int (by rw [HE.out, HQ.out.1]), hbw⟩
          · have HE := Lib.hid (cxN_atr hn h1 hT h3)
            obtain ⟨q, hq⟩ : ∃ q, q = atX d.a := ⟨_, rfl⟩
            rw [← hq] at AC HE h3
            have hq2 : (q != 0) = true := by simpa using h3
            have hq3 : (q == 0) = false := by simpa using h3
            clear hn h1 hal hkl hT h3 hq
            go_enter Tryz.func20, Tryz.ntmps20
            go_wp2_with (first | (go_at_call 40; (with_reducible refine (TC.out _).mono ?_); rintro e w7 ⟨rfl, rfl⟩) | (go_at_call 41; (with_reducible refine (AC.out _ ((Bl.refl _).alloc _)).mono ?_); rintro e w8 ⟨rfl, hb8⟩; have hP8 := (nb_par w d.n d.x ao d.a.length ac ko d.k.length kc).of_bl hb8; obtain ⟨p0, p1, p2, p3, -⟩ := hP8.cells))
            refine wp_loop_rounds 1 ?_
            rw [rounds_succ]
            by_cases hk0 : 0 < d.k.length
            all_goals
              go_wp2
              go_ret
              exact ⟨by rw [HE.out]; rfl, ((Bl.refl _).alloc _).trans hb8⟩
      · have hx : d.x.isEmpty = false := emp2 h1
        have HE := Lib.hid (cxN_form hn (Or.inl h1))
        clear hn h1 hal hkl
        go_enter Tryz.func20, Tryz.ntmps20
        go_wp2
        go_ret
        exact ⟨by rw [HE.out]; rfl, (Bl.refl _).alloc _⟩
end Go.Proofs.YtkacjnifhmgeiaaGreatDoor

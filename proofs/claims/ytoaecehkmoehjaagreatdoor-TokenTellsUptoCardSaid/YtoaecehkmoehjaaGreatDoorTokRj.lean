/- Tokens: the reference: attrsAt (printed by gen_tokat.py). -/
import Derived.Test.YtoaecehkmoehjaaGreatDoorTokRi
import Derived.Deep.CutBlock
namespace Go.Proofs.YtoaecehkmoehjaaGreatDoor
open Go.RowKit

set_option maxRecDepth 100000 in
set_option maxHeartbeats 4000000 in
theorem attrsAt_c (s : List UInt8) (a : Nat) (hs : s.length ≤ 1073741824) (ha : a ≤ s.length) (w : World) :
    Calls Tryz.prog 29 #[.string ⟨s.toArray⟩, .int .i64 (a : Int)] w fun e w' => AaEnd w s (atP (s.drop a) []) e w' := by
  obtain ⟨i0, hi, hz0, hz1, hz2⟩ := info_parts Tryz.infoAtr
  go_enter Tryz.func29, Tryz.ntmps29
  go_wp2
  go_loopw [1, 6] (fun i va wr => ∃ (K : Nat) (out : List Atr), K ≤ s.length ∧ i = .int .i64 (K : Int) ∧ Hid (atP (s.drop a) [] = atP (s.drop K) out) ∧ AtO wr w.heap.size va out ∧ Bl w wr ∧ out.length ≤ K) (fun i _ _ => s.length - (intOf i).toNat)
  case atStart => exact ⟨a, [], ha, rfl, Lib.hid rfl, AtO.nil _ _, Bl.refl _, by simp⟩
  case round =>
    obtain ⟨K, out, hK, rfl, HA, hO, hbl, hol⟩ := hrel
    obtain ⟨E1, s1⟩ := scan wsl s K hK
    have hE1 := s1.ub
    have hKE := s1.le
    have hdw := s1.dw
    go_upto_block 2 with fail
    refine lp2 s K E1 _ (by first | rfl | omega | simp) hs s1 _ _ _ _ _ _ _ _ _ _ _ _ _ _ _ _ _ _ _ _ _ _ _ _ _ _ _ _ _ _ _ _ _ _ _ _ _ _ _ _ _ _ _ _ _ _ _ _ _ _ _ _ _ _ _ _ _ _ _ _ _ _ _ _ _ _ _ _ _ _ _ _ _ _ _ _ _ _ _ _ _ _ _ _ _ _ _ _ _ _ _ _ _ _ _ _ _ _ _ _ _ _ _ _ _ _ _ _ _ _ _ _ _ _ _ _ _ _ _ _ _ _ _ _ _ _ _ _ _ _ _ _ _ _ _ _ _ _ _ _ _ _ _ _ _ _ _ _ _ _ _ _ _ _ _ _ _ _ _ _ _ _ _ _ _ _ _ _ _ _ _ _ _ _ _ _ _ _ _ _ _ _ _ _ _ _ _ _ _ _ _ _ _ _ _ _ _ _ _ _ _ _ _ _ _ _ _ _ _ _ _ ?_
    intro v13 v14 v15 v16 v17 v18 v19 v20 v21 v22 v23 v24 v25 v26 v27 v28 v29 v30
    clear s1
    by_cases hl : E1 < s.length
    · have hne : ((E1 : Int) == (s.length : Int)) = false := by simp; omega
      rw [List.drop_eq_getElem_cons hl] at hdw
      by_cases hc : s[E1] = 62
      · obtain ⟨f62, g62⟩ : ((s[E1].toNat : Int) == 62) = true ∧ ((s[E1].toNat : Int) != 62) = false := c_eq s[E1] 62 (by decide) hc
        have HN := Lib.hid (atP_end (out := out) (hc ▸ hdw))
        clear hdw hc
        go_wp2
        go_ret2
        refine ⟨hbl, ?_⟩
        rw [HA.out, HN.out]
        exact ⟨_, _, rfl, by simp only [List.length_drop]; omega, hO⟩
      · obtain ⟨f62, g62⟩ : ((s[E1].toNat : Int) == 62) = false ∧ ((s[E1].toNat : Int) != 62) = true := c_ne s[E1] 62 (by decide) hc
        obtain ⟨E2, s2⟩ := scan nch s (E1 + 1) (by omega)
        obtain ⟨E3, s3⟩ := scan wht s E2 s2.ub
        obtain ⟨R, hox, hone⟩ := one_ix s E1 E2 E3 hl s2 s3
        have hE2 := s2.le
        have hE2u := s2.ub
        have hE3 := s3.le
        have hE3u := s3.ub
        have HNO := Lib.hid (fun h => atP_no (out := out) hdw hc h)
        have HGO := Lib.hid (fun u a h => atP_go (u := u) (a := a) (out := out) hdw hc h)
        have HONE := Lib.hid hone
        have HOX := Lib.hid hox
        have HS2 := Lib.hid s2
        have HS3 := Lib.hid s3
        clear hox hone s2 s3 hc hdw
        have FC := Lib.hid (fun W => foldOf_c ((s.drop E1).take (E2 - E1)) (by simp only [List.length_take, List.length_drop]; omega) W)
        have hnl : (fold ((s.drop E1).take (E2 - E1))).length ≤ s.length := by rw [fold_len]; simp only [List.length_take, List.length_drop]; omega
        obtain ⟨n, hn⟩ : ∃ n, n = fold ((s.drop E1).take (E2 - E1)) := ⟨_, rfl⟩
        rw [← hn] at FC HONE hnl
        clear hn
        go_upto_block 4 with fail
        refine lp4 s (E1 + 1) E2 _ (by first | rfl | omega | simp) hs HS2.out _ _ _ _ _ _ _ _ _ _ _ _ _ _ _ _ _ _ _ _ _ _ _ _ _ _ _ _ _ _ _ _ _ _ _ _ _ _ _ _ _ _ _ _ _ _ _ _ _ _ _ _ _ _ _ _ _ _ _ _ _ _ _ _ _ _ _ _ _ _ _ _ _ _ _ _ _ _ _ _ _ _ _ _ _ _ _ _ _ _ _ _ _ _ _ _ _ _ _ _ _ _ _ _ _ _ _ _ _ _ _ _ _ _ _ _ _ _ _ _ _ _ _ _ _ _ _ _ _ _ _ _ _ _ _ _ _ _ _ _ _ _ _ _ _ _ _ _ _ _ _ _ _ _ _ _ _ _ _ _ _ _ _ _ _ _ _ _ _ _ _ _ _ _ _ _ _ _ _ _ _ _ _ _ _ _ _ _ _ _ _ _ _ _ _ _ _ _ _ _ _ _ _ _ _ _ _ _ _ _ _ ?_
        intro v45 v46 v47 v48 v49 v50 v51 v52 v53 v54 v55 v56 v57 v58 v59 v60 v61 v62 v63 v64 v65 v66 v67 v68 v69 v70 v71 v72 v73 v74 v75
        have i1 : (0 : Int) ≤ (E2 : Int) ∧ (E2 : Int) ≤ (s.length : Int) := by omega
        have i2 : (E1 : Int) ≤ (E2 : Int) := by omega
        go_upto_block 6 with (go_at_call 28; (with_reducible refine (FC.out _).mono ?_); rintro e w4 ⟨rfl, hb4⟩)
        have hAw := Ab.new w4 n
        have hbw := hb4.alloc (.cells #[.string ⟨n.toArray⟩, .string ⟨#[]⟩] 41)
        have hq2 := Below.size (hbl.trans hb4)
        have hq3 := Below.size hb4
        refine lp6 s E2 E3 _ (by first | rfl | omega | simp) hs HS3.out _ _ _ _ _ _ _ _ _ _ _ _ _ _ _ _ _ _ _ _ _ _ _ _ _ _ _ _ _ _ _ _ _ _ _ _ _ _ _ _ _ _ _ _ _ _ _ _ _ _ _ _ _ _ _ _ _ _ _ _ _ _ _ _ _ _ _ _ _ _ _ _ _ _ _ _ _ _ _ _ _ _ _ _ _ _ _ _ _ _ _ _ _ _ _ _ _ _ _ _ _ _ _ _ _ _ _ _ _ _ _ _ _ _ _ _ _ _ _ _ _ _ _ _ _ _ _ _ _ _ _ _ _ _ _ _ _ _ _ _ _ _ _ _ _ _ _ _ _ _ _ _ _ _ _ _ _ _ _ _ _ _ _ _ _ _ _ _ _ _ _ _ _ _ _ _ _ _ _ _ _ _ _ _ _ _ _ _ _ _ _ _ _ _ _ _ _ _ _ _ _ _ _ _ _ _ _ _ _ _ _ ?_
        intro v82 v83 v84 v85 v86 v87 v88 v89 v90 v91 v92 v93
        obtain ⟨q, hqe⟩ : ∃ q, q = w4.heap.size := ⟨_, rfl⟩
        obtain ⟨wd, hwd⟩ : ∃ wd, wd = w4.alloc (.cells #[.string ⟨n.toArray⟩, .string ⟨#[]⟩] 41) := ⟨_, rfl⟩
        rw [← hwd] at hAw hbw ⊢
        rw [← hqe] at hAw hq2 hq3 ⊢
        clear hwd hqe hb4 i1 i2
        obtain ⟨tb, htb⟩ : ∃ tb : Bool, tb = decide (∃ h : E3 < s.length, s[E3] = 61) := ⟨_, rfl⟩
        go_upto_region 15 with fail
        go_cut [103] from 13 to 102 (fun t wx => t = .bool tb ∧ wx = wd)
        case first =>
          by_cases h3 : E3 < s.length
          · by_cases h61 : s[E3] = 61
            · obtain ⟨f61, g61⟩ : ((s[E3].toNat : Int) == 61) = true ∧ ((s[E3].toNat : Int) != 61) = false := c_eq s[E3] 61 (by decide) h61
              have htb2 : tb = true := by rw [htb]; simp [h3, h61]
              subst htb2
              clear h61 htb
              go_wp2_with fail
              go_meet
              case rel => exact ⟨rfl, rfl⟩
            · obtain ⟨f61, g61⟩ : ((s[E3].toNat : Int) == 61) = false ∧ ((s[E3].toNat : Int) != 61) = true := c_ne s[E3] 61 (by decide) h61
              have htb2 : tb = false := by rw [htb]; simp [h3, h61]
              subst htb2
              clear h61 htb
              go_wp2_with fail
              go_meet
              case rel => exact ⟨rfl, rfl⟩
          · have htb2 : tb = false := by rw [htb]; simp; intro h; exact absurd h h3
            subst htb2
            clear htb
            go_wp2_with fail
            go_meet
            case rel => exact ⟨rfl, rfl⟩
        case rest =>
          obtain ⟨rfl, rfl⟩ := hcut
          go_upto_if 103 with fail
          go_cut [1] from 13 to 209 (fun x wx => ∃ y E, R = some (y, E) ∧ x = .int .i64 (E : Int) ∧ E3 ≤ E ∧ E ≤ s.length ∧ Ab wx q n y ∧ Bl wr wx)
          case first =>
            rcases HOX.out with h | ⟨h, h61, E4, E5, a4, b4, c4⟩ | ⟨h, h61, E4, E5, a4, hE, hq, b4, hF⟩ | ⟨h, h61, E4, E5, a4, hE, hq, b4, hF⟩
            · have htb2 : tb = false := by rw [htb]; simp; exact h
              subst htb2
              refine at_none s n E3 q hs wr _ hAw hbw hq3 _ _ _ _ _ _ _ _ _ _ _ _ _ _ _ _ _ _ _ _ _ _ _ _ _ _ _ _ _ _ _ _ _ _ _ _ _ _ _ _ _ _ _ _ _ _ _ _ _ _ _ _ _ _ _ _ _ _ _ _ _ _ _ _ _ _ _ _ _ _ _ _ _ _ _ _ _ _ _ _ _ _ _ _ _ _ _ _ _ _ _ _ _ _ _ _ _ _ _ _ _ _ _ _ _ _ _ _ _ _ _ _ _ _ _ _ _ _ _ _ _ _ _ _ _ _ _ _ _ _ _ _ _ _ _ _ _ _ _ _ _ _ _ _ _ _ _ _ _ _ _ _ _ _ _ _ _ _ _ _ _ _ _ _ _ _ _ _ _ _ _ _ _ _ _ _ _ _ _ _ _ _ _ _ _ _ _ _ _ _ _ _ _ _ _ _ _ _ _ _ _ _ _ _ _ _ _ _ ?_
              intro v7 v9 v10 v104 v105 v106 v107 v108 v109 v110 v111 v112 v113 v114 v115 v116 v117 v118 v119 v120 v121 v122 v123 v124 v125 v126 v127 v128 v129 v130 v131 v132 v133 v134 v135 v136 v137 v138 v139 v140 v141 v142 v143 v144 v145 v146 v147 v148 v149 v150 v151 v152 v153 v154 v155 v156 v157 v158 v159 v160 v161 v162 v163 v164 v165 v166 v167 v168 v169 v170 v171 v172 v173 v174 v175 v176 v177 v178 v179 v180 v181 W hA hB
              go_wp2_with fail
              go_meet
              case rel => exact ⟨_, E3, rfl, rfl, Nat.le_refl _, hE3u, hA, hB⟩
            · have htb2 : tb = true := by rw [htb]; simp [h, h61]
              subst htb2
              refine at_plain s n E3 q hs h E4 E5 a4 b4 c4 wr _ hAw hbw hq3 _ _ _ _ _ _ _ _ _ _ _ _ _ _ _ _ _ _ _ _ _ _ _ _ _ _ _ _ _ _ _ _ _ _ _ _ _ _ _ _ _ _ _ _ _ _ _ _ _ _ _ _ _ _ _ _ _ _ _ _ _ _ _ _ _ _ _ _ _ _ _ _ _ _ _ _ _ _ _ _ _ _ _ _ _ _ _ _ _ _ _ _ _ _ _ _ _ _ _ _ _ _ _ _ _ _ _ _ _ _ _ _ _ _ _ _ _ _ _ _ _ _ _ _ _ _ _ _ _ _ _ _ _ _ _ _ _ _ _ _ _ _ _ _ _ _ _ _ _ _ _ _ _ _ _ _ _ _ _ _ _ _ _ _ _ _ _ _ _ _ _ _ _ _ _ _ _ _ _ _ _ _ _ _ _ _ _ _ _ _ _ _ _ _ _ _ _ _ _ _ _ _ _ _ _ _ _ _ ?_
              intro v7 v9 v10 v104 v105 v106 v107 v108 v109 v110 v111 v112 v113 v114 v115 v116 v117 v118 v119 v120 v121 v122 v123 v124 v125 v126 v127 v128 v129 v130 v131 v132 v133 v134 v135 v136 v137 v138 v139 v140 v141 v142 v143 v144 v145 v146 v147 v148 v149 v150 v151 v152 v153 v154 v155 v156 v157 v158 v159 v160 v161 v162 v163 v164 v165 v166 v167 v168 v169 v170 v171 v172 v173 v174 v175 v176 v177 v178 v179 v180 v181 W hA hB
              have k1 := a4.le
              have k2 := b4.le
              have k3 := b4.ub
              go_wp2_with fail
              go_meet
              case rel => exact ⟨_, E5, rfl, rfl, by omega, k3, hA, hB⟩
            · have htb2 : tb = true := by rw [htb]; simp [h, h61]
              subst htb2
              refine at_quote s n E3 q hs h E4 E5 a4 hE hq b4 hF wr _ hAw hbw hq3 _ _ _ _ _ _ _ _ _ _ _ _ _ _ _ _ _ _ _ _ _ _ _ _ _ _ _ _ _ _ _ _ _ _ _ _ _ _ _ _ _ _ _ _ _ _ _ _ _ _ _ _ _ _ _ _ _ _ _ _ _ _ _ _ _ _ _ _ _ _ _ _ _ _ _ _ _ _ _ _ _ _ _ _ _ _ _ _ _ _ _ _ _ _ _ _ _ _ _ _ _ _ _ _ _ _ _ _ _ _ _ _ _ _ _ _ _ _ _ _ _ _ _ _ _ _ _ _ _ _ _ _ _ _ _ _ _ _ _ _ _ _ _ _ _ _ _ _ _ _ _ _ _ _ _ _ _ _ _ _ _ _ _ _ _ _ _ _ _ _ _ _ _ _ _ _ _ _ _ _ _ _ _ _ _ _ _ _ _ _ _ _ _ _ _ _ _ _ _ _ _ _ _ _ _ _ _ _ ?_
              intro v7 v9 v10 v104 v105 v106 v107 v108 v109 v110 v111 v112 v113 v114 v115 v116 v117 v118 v119 v120 v121 v122 v123 v124 v125 v126 v127 v128 v129 v130 v131 v132 v133 v134 v135 v136 v137 v138 v139 v140 v141 v142 v143 v144 v145 v146 v147 v148 v149 v150 v151 v152 v153 v154 v155 v156 v157 v158 v159 v160 v161 v162 v163 v164 v165 v166 v167 v168 v169 v170 v171 v172 v173 v174 v175 v176 v177 v178 v179 v180 v181 W hA hB
              have k1 := a4.le
              have k2 := b4.le
              go_wp2_with fail
              go_meet
              case rel => exact ⟨_, E5 + 1, rfl, by go_num, by omega, by omega, hA, hB⟩
            · have htb2 : tb = true := by rw [htb]; simp [h, h61]
              subst htb2
              refine at_stop s n E3 q hs h E4 E5 a4 hE hq b4 hF wr _ hAw hbw hq3 _ _ _ _ _ _ _ _ _ _ _ _ _ _ _ _ _ _ _ _ _ _ _ _ _ _ _ _ _ _ _ _ _ _ _ _ _ _ _ _ _ _ _ _ _ _ _ _ _ _ _ _ _ _ _ _ _ _ _ _ _ _ _ _ _ _ _ _ _ _ _ _ _ _ _ _ _ _ _ _ _ _ _ _ _ _ _ _ _ _ _ _ _ _ _ _ _ _ _ _ _ _ _ _ _ _ _ _ _ _ _ _ _ _ _ _ _ _ _ _ _ _ _ _ _ _ _ _ _ _ _ _ _ _ _ _ _ _ _ _ _ _ _ _ _ _ _ _ _ _ _ _ _ _ _ _ _ _ _ _ _ _ _ _ _ _ _ _ _ _ _ _ _ _ _ _ _ _ _ _ _ _ _ _ _ _ _ _ _ _ _ _ _ _ _ _ _ _ _ _ _ _ _ _ _ _ _ _ ?_
              intro v1 v7 v9 v10 v104 v105 v106 v107 v108 v109 v110 v111 v112 v113 v114 v115 v116 v117 v118 v119 v120 v121 v122 v123 v124 v125 v126 v127 v128 v129 v130 v131 v132 v133 v134 v135 v136 v137 v138 v139 v140 v141 v142 v143 v144 v145 v146 v147 v148 v149 v150 v151 v152 v153 v154 v155 v156 v157 v158 v159 v160 v161 v162 v163 v164 v165 v166 v167 v168 v169 v170 v171 v172 v173 v174 v175 v176 v177 v178 v179 v180 v181 W hB
              have HN := Lib.hid (HNO.out (by rw [HONE.out]; rfl))
              go_wp2_with fail
              go_ret2
              refine ⟨hbl.trans hB, ?_⟩
              rw [HA.out, HN.out]
              rfl
          case rest =>
            obtain ⟨y, E, rfl, rfl, hE1', hE2', hAb, hbc⟩ := hcut
            have HG := Lib.hid (HGO.out _ _ (by rw [HONE.out]; rfl))
            clear HGO HNO HONE HOX HS2 HS3
            go_upto_block 12 with fail
            refine lp12 out n y _ q _ (by omega) _ (hO.of_bl hbc) hAb _ _ _ _ _ _ _ _ _ _ _ _ _ _ _ _ _ _ _ _ _ _ _ _ _ _ _ _ _ _ _ _ _ _ _ _ _ _ _ _ _ _ _ _ _ _ _ _ _ _ _ _ _ _ _ _ _ _ _ _ _ _ _ _ _ _ _ _ _ _ _ _ _ _ _ _ _ _ _ _ _ _ _ _ _ _ _ _ _ _ _ _ _ _ _ _ _ _ _ _ _ _ _ _ _ _ _ _ _ _ _ _ _ _ _ _ _ _ _ _ _ _ _ _ _ _ _ _ _ _ _ _ _ _ _ _ _ _ _ _ _ _ _ _ _ _ _ _ _ _ _ _ _ _ _ _ _ _ _ _ _ _ _ _ _ _ _ _ _ _ _ _ _ _ _ _ _ _ _ _ _ _ _ _ _ _ _ _ _ _ _ _ _ _ _ _ _ _ _ _ _ _ _ _ _ _ _ _ ?_
            intro v12 v182 v183 v184 v185 v186 v187 v188 v189 v190 v191 v192 v193 v194 v195 v196 v197 v198 W hqW
            have hOt := (hO.of_bl hbc).of_bl hqW.bl
            have hbt := hbc.trans hqW.bl
            have hAt := hAb.of_bl hqW.bl
            obtain ⟨z0, z1, z2, z3, z4⟩ := hAt
            have hszW := Below.size (hbl.trans hbt)
            have NC := Lib.hid (fun W => isName_c n (by omega) W)
            cases hN : isNm n
            · rw [hN] at NC
              have HE := Lib.hid (addA_no (out := out) (y := y) hN)
              clear hN
              go_wp2_with (go_at_call 21; (with_reducible refine (NC.out _).mono ?_); rintro e w7 ⟨rfl, rfl⟩)
              go_roundw
              case rel => exact ⟨E, out, hE2', rfl, Lib.hid (by rw [HA.out, HG.out, HE.out]), hOt, hbl.trans hbt, by omega⟩
              case measure => simp [intOf]; omega
            · rw [hN] at NC
              cases hY : out.any (isN n)
              · have HE := Lib.hid (addA_new (out := out) (y := y) hN hY)
                clear hN hY
                go_wp2_with (first | (go_at_call 21; (with_reducible refine (NC.out _).mono ?_); rintro e w7 ⟨rfl, rfl⟩) | (at_builtin; refine wpList_append_own _ rfl _ _ 35 rfl w.heap.size 41 i0 (.agg #[.string ⟨#[]⟩, .string ⟨#[]⟩]) 2 32 Tryz.underlying35 hi hz0 hz1 hz2 rfl (by decide) _ _ _ rfl (World.ownsRow.alloc hOt _) ⟨W.heap.size, 0, none⟩ 1 1 [.string ⟨n.toArray⟩, .string ⟨y.toArray⟩] rfl rfl (new_cells W #[.string ⟨n.toArray⟩, .string ⟨y.toArray⟩] _) (by simp [Value.oneCell']) (by unfold maxLen; omega) (by omega) (by simp; omega) ?_))
                intro v' wz hown' hgrow _
                obtain ⟨m1, m2⟩ := aa_app (a := (n, y)) hOt (hbl.trans hbt) hown' hgrow
                clear hown' hgrow
                go_wp2
                go_roundw
                case rel => exact ⟨E, out ++ [(n, y)], hE2', rfl, Lib.hid (by rw [HA.out, HG.out, HE.out]), m1, m2, by simp; omega⟩
                case measure => simp [intOf]; omega
              · have HE := Lib.hid (addA_there (out := out) (y := y) hY)
                clear hN hY
                go_wp2_with (go_at_call 21; (with_reducible refine (NC.out _).mono ?_); rintro e w7 ⟨rfl, rfl⟩)
                go_roundw
                case rel => exact ⟨E, out, hE2', rfl, Lib.hid (by rw [HA.out, HG.out, HE.out]), hOt, hbl.trans hbt, by omega⟩
                case measure => simp [intOf]; omega
    · obtain rfl : E1 = s.length := by omega
      have HN := Lib.hid (atP_nil (out := out) (show (s.drop K).dropWhile wsl = [] by rw [hdw]; simp))
      clear hdw
      go_wp2
      go_ret2
      refine ⟨hbl, ?_⟩
      rw [HA.out, HN.out]
      rfl
end Go.Proofs.YtoaecehkmoehjaaGreatDoor

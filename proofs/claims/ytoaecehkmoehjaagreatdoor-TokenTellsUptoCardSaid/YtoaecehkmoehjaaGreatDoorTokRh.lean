/- Tokens: the reference: TokensOf (printed by gen_tokof.py). -/
import Derived.Test.YtoaecehkmoehjaaGreatDoorTokRm
import Derived.RegionTactic
import Derived.BigRegion
namespace Go.Proofs.YtoaecehkmoehjaaGreatDoor
open Go.RowKit

theorem RS.start (w : World) : RS ((w.alloc (.cells #[.slice none 0 0] 22)).alloc (.cells #[.string ⟨#[]⟩] 9)) (w.heap.size + 1) w.heap.size [] [] :=
  ⟨.slice none 0 0, ⟨by rw [show w.heap.size + 1 = (w.alloc (.cells #[.slice none 0 0] 22)).heap.size by simp]; exact heap_alloc_new _ _, by rw [(gb_bl (b := none) ((Bl.refl (w.alloc (.cells #[.slice none 0 0] 22))).alloc (.cells #[.string ⟨#[]⟩] 9))).block w.heap.size (by simp) (by simp)]; exact heap_alloc_new _ _⟩, TkO.nil _ _⟩
set_option maxRecDepth 100000 in
set_option maxHeartbeats 4000000 in
theorem tokensOf_c (s : List UInt8) (hs : s.length ≤ 300000000) (w : World) :
    Calls Tryz.prog 11 #[.string ⟨s.toArray⟩] w fun e w' => ∃ v, e = .returned v ∧ TkS w' v (TokL s) ∧ Bl w w' := by
  obtain ⟨i0, hi, hz0, hz1, hz2⟩ := info_parts Tryz.infoTok
  have hmf : ∀ (fn : Fn) (first cap : Array Value) (w : World), (Instr.makeFunc fn first cap).run Tryz.prog w = .ok (.func fn first cap) w := fun _ _ _ _ => rfl
  have hcf : ∀ (args : Array Value) (W : World), Sem.run Tryz.prog (callFunc 23 args) W = .ok (.enter 23 args) W := fun args W => by
    simp [callFunc, go_sem, Tryz.func23, Tryz.f23]
  go_enter Tryz.func11, Tryz.ntmps11
  go_wp2
  go_loopw [6] (fun i wr => ∃ (k : Nat) (x : List UInt8) (out : List Tok), k ≤ s.length ∧ i = .int .i64 (k : Int) ∧ Hid (TokL s = tkP (s.drop k) x out) ∧ RS wr (w.heap.size + 1) w.heap.size x out ∧ Bl w wr ∧ x.length ≤ k ∧ out.length ≤ 2 * k) (fun i _ => s.length - (intOf i).toNat)
  case atStart => exact ⟨0, [], [], Nat.zero_le _, rfl, Lib.hid rfl, RS.start w, ((Bl.refl _).alloc _).alloc _, by simp, by simp⟩
  case round =>
    obtain ⟨k, x, out, hk, rfl, HT, hR, hbl, hx, ho⟩ := hrel
    by_cases hlt : k < s.length
    · have HD : s.drop k = s[k] :: s.drop (k + 1) := List.drop_eq_getElem_cons hlt
      have hlt2 : (k : Int) + 1 ≤ (s.length : Int) := by omega
      by_cases hc : s[k] = 60
      · have HTT := Lib.hid (show TokL s = tkP (60 :: s.drop (k + 1)) x out by rw [HT.out, HD, hc])
        have hszr : w.heap.size + 2 ≤ wr.heap.size := by obtain ⟨v, hV, -⟩ := hR; have := hV.lt.1; omega
        obtain ⟨f60, g60⟩ : ((s[k].toNat : Int) == 60) = true ∧ ((s[k].toNat : Int) != 60) = false := c_eq s[k] 60 (by decide) hc
        have HC := Lib.hid hc
        clear hc HD
        go_upto_block 2 with fail
        clear f60 g60
        go_cut [7] from 12 to 178 (fun t wx => ∃ j : Int, t = .int .i64 j ∧ TgR wx wr.heap.size wr.heap.size s.length (tagP (s.drop (k + 1))) j ∧ Bl wr wx)
        case first =>
          clear HTT HT hR hx ho hbl
          have hc := HC.out
          have hqz : Tkb (wr.alloc (.cells #[.int .i64 0, .string ⟨#[]⟩, .slice none 0 0, .string ⟨#[]⟩] 37)) wr.heap.size 0 [] (.slice none 0 0) := heap_alloc_new _ _
          have hbz : Bl wr (wr.alloc (.cells #[.int .i64 0, .string ⟨#[]⟩, .slice none 0 0, .string ⟨#[]⟩] 37)) := (Bl.refl _).alloc _
          by_cases h1 : k + 1 < s.length
          · by_cases hL : ltr s[k + 1] = true
            · refine sw_open s k _ (by omega) hlt hc h1 hL wr _ hqz hbz (Nat.le_refl _) _ _ _ _ _ _ _ _ _ _ _ _ _ _ _ _ _ _ _ _ _ _ _ _ _ _ _ _ _ _ _ _ _ _ _ _ _ _ _ _ _ _ _ _ _ _ _ _ _ _ _ _ _ _ _ _ _ _ _ _ _ _ _ _ _ _ _ _ _ _ _ _ _ _ _ _ _ _ _ _ _ _ _ _ _ _ _ _ _ _ _ _ _ _ _ _ _ _ _ _ _ _ _ _ _ _ _ _ _ _ _ _ _ _ _ _ _ _ _ _ _ _ _ _ _ _ _ _ _ _ _ _ _ _ _ _ _ _ _ _ _ _ _ _ _ _ _ _ _ _ _ _ _ _ _ _ _ _ _ _ _ _ _ _ _ _ _ _ _ _ _ _ _ _ _ _ _ _ _ _ ?_
              intro v9 v10 v29 v30 v31 v32 v33 v34 v35 v36 v37 v38 v39 v40 v41 v42 v43 v44 v45 v46 v47 v48 v49 v50 v51 v52 v53 v54 v55 v56 v57 v58 v59 v60 v61 v62 v63 v64 v65 v66 v67 v68 v69 v70 v71 v72 v73 v74 v75 v76 v77 v78 v79 v80 v81 v82 v83 v84 v85 v86 v87 v88 v89 v90 v91 v92 v93 v94 v95 v96 v97 v98 v99 v100 v101 v102 v103 v104 v105 v106 v107 v108 v109 v110 v111 v112 v113 v114 v115 v116 v117 v118 v119 v120 v121 v122 v123 v124 v125 v126 v127 v128 v129 v130 v131 v132 v133 v134 v135 v136 v137 v138 v139 v140 v141 v142 v143 v144 v145 v146 jt W g1 g2
              go_wp2_with fail
              go_meet
              case rel => exact ⟨jt, rfl, g1, g2⟩
            · have hL' : ltr s[k + 1] = false := by simpa using hL
              by_cases h47 : s[k + 1] = 47
              · by_cases h2 : k + 2 < s.length
                · by_cases hM : ltr s[k + 2] = true
                  · refine sw_close s k _ (by omega) hlt hc h1 hL' h47 h2 hM wr _ hqz hbz (Nat.le_refl _) _ _ _ _ _ _ _ _ _ _ _ _ _ _ _ _ _ _ _ _ _ _ _ _ _ _ _ _ _ _ _ _ _ _ _ _ _ _ _ _ _ _ _ _ _ _ _ _ _ _ _ _ _ _ _ _ _ _ _ _ _ _ _ _ _ _ _ _ _ _ _ _ _ _ _ _ _ _ _ _ _ _ _ _ _ _ _ _ _ _ _ _ _ _ _ _ _ _ _ _ _ _ _ _ _ _ _ _ _ _ _ _ _ _ _ _ _ _ _ _ _ _ _ _ _ _ _ _ _ _ _ _ _ _ _ _ _ _ _ _ _ _ _ _ _ _ _ _ _ _ _ _ _ _ _ _ _ _ _ _ _ _ _ _ _ _ _ _ _ _ _ _ _ _ _ _ _ _ _ _ ?_
                    intro v9 v10 v29 v30 v31 v32 v33 v34 v35 v36 v37 v38 v39 v40 v41 v42 v43 v44 v45 v46 v47 v48 v49 v50 v51 v52 v53 v54 v55 v56 v57 v58 v59 v60 v61 v62 v63 v64 v65 v66 v67 v68 v69 v70 v71 v72 v73 v74 v75 v76 v77 v78 v79 v80 v81 v82 v83 v84 v85 v86 v87 v88 v89 v90 v91 v92 v93 v94 v95 v96 v97 v98 v99 v100 v101 v102 v103 v104 v105 v106 v107 v108 v109 v110 v111 v112 v113 v114 v115 v116 v117 v118 v119 v120 v121 v122 v123 v124 v125 v126 v127 v128 v129 v130 v131 v132 v133 v134 v135 v136 v137 v138 v139 v140 v141 v142 v143 v144 v145 v146 jt W g1 g2
                    go_wp2_with fail
                    go_meet
                    case rel => exact ⟨jt, rfl, g1, g2⟩
                  · have hM' : ltr s[k + 2] = false := by simpa using hM
                    refine sw_47a s k _ (by omega) hlt hc h1 hL' h47 h2 hM' wr _ hqz hbz (Nat.le_refl _) _ _ _ _ _ _ _ _ _ _ _ _ _ _ _ _ _ _ _ _ _ _ _ _ _ _ _ _ _ _ _ _ _ _ _ _ _ _ _ _ _ _ _ _ _ _ _ _ _ _ _ _ _ _ _ _ _ _ _ _ _ _ _ _ _ _ _ _ _ _ _ _ _ _ _ _ _ _ _ _ _ _ _ _ _ _ _ _ _ _ _ _ _ _ _ _ _ _ _ _ _ _ _ _ _ _ _ _ _ _ _ _ _ _ _ _ _ _ _ _ _ _ _ _ _ _ _ _ _ _ _ _ _ _ _ _ _ _ _ _ _ _ _ _ _ _ _ _ _ _ _ _ _ _ _ _ _ _ _ _ _ _ _ _ _ _ _ _ _ _ _ _ _ _ _ _ _ _ _ _ ?_
                    intro v9 v10 v29 v30 v31 v32 v33 v34 v35 v36 v37 v38 v39 v40 v41 v42 v43 v44 v45 v46 v47 v48 v49 v50 v51 v52 v53 v54 v55 v56 v57 v58 v59 v60 v61 v62 v63 v64 v65 v66 v67 v68 v69 v70 v71 v72 v73 v74 v75 v76 v77 v78 v79 v80 v81 v82 v83 v84 v85 v86 v87 v88 v89 v90 v91 v92 v93 v94 v95 v96 v97 v98 v99 v100 v101 v102 v103 v104 v105 v106 v107 v108 v109 v110 v111 v112 v113 v114 v115 v116 v117 v118 v119 v120 v121 v122 v123 v124 v125 v126 v127 v128 v129 v130 v131 v132 v133 v134 v135 v136 v137 v138 v139 v140 v141 v142 v143 v144 v145 v146 jt W g1 g2
                    go_wp2_with fail
                    go_meet
                    case rel => exact ⟨jt, rfl, g1, g2⟩
                · refine sw_47b s k _ (by omega) hlt hc h1 hL' h47 h2 wr _ hqz hbz (Nat.le_refl _) _ _ _ _ _ _ _ _ _ _ _ _ _ _ _ _ _ _ _ _ _ _ _ _ _ _ _ _ _ _ _ _ _ _ _ _ _ _ _ _ _ _ _ _ _ _ _ _ _ _ _ _ _ _ _ _ _ _ _ _ _ _ _ _ _ _ _ _ _ _ _ _ _ _ _ _ _ _ _ _ _ _ _ _ _ _ _ _ _ _ _ _ _ _ _ _ _ _ _ _ _ _ _ _ _ _ _ _ _ _ _ _ _ _ _ _ _ _ _ _ _ _ _ _ _ _ _ _ _ _ _ _ _ _ _ _ _ _ _ _ _ _ _ _ _ _ _ _ _ _ _ _ _ _ _ _ _ _ _ _ _ _ _ _ _ _ _ _ _ _ _ _ _ _ _ _ _ _ _ _ ?_
                  intro v9 v10 v29 v30 v31 v32 v33 v34 v35 v36 v37 v38 v39 v40 v41 v42 v43 v44 v45 v46 v47 v48 v49 v50 v51 v52 v53 v54 v55 v56 v57 v58 v59 v60 v61 v62 v63 v64 v65 v66 v67 v68 v69 v70 v71 v72 v73 v74 v75 v76 v77 v78 v79 v80 v81 v82 v83 v84 v85 v86 v87 v88 v89 v90 v91 v92 v93 v94 v95 v96 v97 v98 v99 v100 v101 v102 v103 v104 v105 v106 v107 v108 v109 v110 v111 v112 v113 v114 v115 v116 v117 v118 v119 v120 v121 v122 v123 v124 v125 v126 v127 v128 v129 v130 v131 v132 v133 v134 v135 v136 v137 v138 v139 v140 v141 v142 v143 v144 v145 v146 jt W g1 g2
                  go_wp2_with fail
                  go_meet
                  case rel => exact ⟨jt, rfl, g1, g2⟩
              · by_cases h33 : s[k + 1] = 33
                · by_cases h45 : pre [45, 45] (s.drop (k + 2)) = true
                  · refine sw_33b s k _ (by omega) hlt hc h1 hL' h47 h33 h45 (by omega) wr _ hqz hbz (Nat.le_refl _) _ _ _ _ _ _ _ _ _ _ _ _ _ _ _ _ _ _ _ _ _ _ _ _ _ _ _ _ _ _ _ _ _ _ _ _ _ _ _ _ _ _ _ _ _ _ _ _ _ _ _ _ _ _ _ _ _ _ _ _ _ _ _ _ _ _ _ _ _ _ _ _ _ _ _ _ _ _ _ _ _ _ _ _ _ _ _ _ _ _ _ _ _ _ _ _ _ _ _ _ _ _ _ _ _ _ _ _ _ _ _ _ _ _ _ _ _ _ _ _ _ _ _ _ _ _ _ _ _ _ _ _ _ _ _ _ _ _ _ _ _ _ _ _ _ _ _ _ _ _ _ _ _ _ _ _ _ _ _ _ _ _ _ _ _ _ _ _ _ _ _ _ _ _ _ _ _ _ _ _ ?_
                    intro v9 v10 v29 v30 v31 v32 v33 v34 v35 v36 v37 v38 v39 v40 v41 v42 v43 v44 v45 v46 v47 v48 v49 v50 v51 v52 v53 v54 v55 v56 v57 v58 v59 v60 v61 v62 v63 v64 v65 v66 v67 v68 v69 v70 v71 v72 v73 v74 v75 v76 v77 v78 v79 v80 v81 v82 v83 v84 v85 v86 v87 v88 v89 v90 v91 v92 v93 v94 v95 v96 v97 v98 v99 v100 v101 v102 v103 v104 v105 v106 v107 v108 v109 v110 v111 v112 v113 v114 v115 v116 v117 v118 v119 v120 v121 v122 v123 v124 v125 v126 v127 v128 v129 v130 v131 v132 v133 v134 v135 v136 v137 v138 v139 v140 v141 v142 v143 v144 v145 v146 jt W g1 g2
                    go_wp2_with fail
                    go_meet
                    case rel => exact ⟨jt, rfl, g1, g2⟩
                  · have h45' : pre [45, 45] (s.drop (k + 2)) = false := by simpa using h45
                    refine sw_33a s k _ (by omega) hlt hc h1 hL' h47 h33 h45' wr _ hqz hbz (Nat.le_refl _) _ _ _ _ _ _ _ _ _ _ _ _ _ _ _ _ _ _ _ _ _ _ _ _ _ _ _ _ _ _ _ _ _ _ _ _ _ _ _ _ _ _ _ _ _ _ _ _ _ _ _ _ _ _ _ _ _ _ _ _ _ _ _ _ _ _ _ _ _ _ _ _ _ _ _ _ _ _ _ _ _ _ _ _ _ _ _ _ _ _ _ _ _ _ _ _ _ _ _ _ _ _ _ _ _ _ _ _ _ _ _ _ _ _ _ _ _ _ _ _ _ _ _ _ _ _ _ _ _ _ _ _ _ _ _ _ _ _ _ _ _ _ _ _ _ _ _ _ _ _ _ _ _ _ _ _ _ _ _ _ _ _ _ _ _ _ _ _ _ _ _ _ _ _ _ _ _ _ _ _ ?_
                    intro v9 v10 v29 v30 v31 v32 v33 v34 v35 v36 v37 v38 v39 v40 v41 v42 v43 v44 v45 v46 v47 v48 v49 v50 v51 v52 v53 v54 v55 v56 v57 v58 v59 v60 v61 v62 v63 v64 v65 v66 v67 v68 v69 v70 v71 v72 v73 v74 v75 v76 v77 v78 v79 v80 v81 v82 v83 v84 v85 v86 v87 v88 v89 v90 v91 v92 v93 v94 v95 v96 v97 v98 v99 v100 v101 v102 v103 v104 v105 v106 v107 v108 v109 v110 v111 v112 v113 v114 v115 v116 v117 v118 v119 v120 v121 v122 v123 v124 v125 v126 v127 v128 v129 v130 v131 v132 v133 v134 v135 v136 v137 v138 v139 v140 v141 v142 v143 v144 v145 v146 jt W g1 g2
                    go_wp2_with fail
                    go_meet
                    case rel => exact ⟨jt, rfl, g1, g2⟩
                · by_cases h63 : s[k + 1] = 63
                  · refine sw_63 s k _ (by omega) hlt hc h1 hL' h47 h33 h63 wr _ hqz hbz (Nat.le_refl _) _ _ _ _ _ _ _ _ _ _ _ _ _ _ _ _ _ _ _ _ _ _ _ _ _ _ _ _ _ _ _ _ _ _ _ _ _ _ _ _ _ _ _ _ _ _ _ _ _ _ _ _ _ _ _ _ _ _ _ _ _ _ _ _ _ _ _ _ _ _ _ _ _ _ _ _ _ _ _ _ _ _ _ _ _ _ _ _ _ _ _ _ _ _ _ _ _ _ _ _ _ _ _ _ _ _ _ _ _ _ _ _ _ _ _ _ _ _ _ _ _ _ _ _ _ _ _ _ _ _ _ _ _ _ _ _ _ _ _ _ _ _ _ _ _ _ _ _ _ _ _ _ _ _ _ _ _ _ _ _ _ _ _ _ _ _ _ _ _ _ _ _ _ _ _ _ _ _ _ _ ?_
                    intro v9 v10 v29 v30 v31 v32 v33 v34 v35 v36 v37 v38 v39 v40 v41 v42 v43 v44 v45 v46 v47 v48 v49 v50 v51 v52 v53 v54 v55 v56 v57 v58 v59 v60 v61 v62 v63 v64 v65 v66 v67 v68 v69 v70 v71 v72 v73 v74 v75 v76 v77 v78 v79 v80 v81 v82 v83 v84 v85 v86 v87 v88 v89 v90 v91 v92 v93 v94 v95 v96 v97 v98 v99 v100 v101 v102 v103 v104 v105 v106 v107 v108 v109 v110 v111 v112 v113 v114 v115 v116 v117 v118 v119 v120 v121 v122 v123 v124 v125 v126 v127 v128 v129 v130 v131 v132 v133 v134 v135 v136 v137 v138 v139 v140 v141 v142 v143 v144 v145 v146 jt W g1 g2
                    go_wp2_with fail
                    go_meet
                    case rel => exact ⟨jt, rfl, g1, g2⟩
                  · refine sw_none s k _ (by omega) hlt hc h1 hL' h47 h33 h63 wr _ hqz hbz (Nat.le_refl _) _ _ _ _ _ _ _ _ _ _ _ _ _ _ _ _ _ _ _ _ _ _ _ _ _ _ _ _ _ _ _ _ _ _ _ _ _ _ _ _ _ _ _ _ _ _ _ _ _ _ _ _ _ _ _ _ _ _ _ _ _ _ _ _ _ _ _ _ _ _ _ _ _ _ _ _ _ _ _ _ _ _ _ _ _ _ _ _ _ _ _ _ _ _ _ _ _ _ _ _ _ _ _ _ _ _ _ _ _ _ _ _ _ _ _ _ _ _ _ _ _ _ _ _ _ _ _ _ _ _ _ _ _ _ _ _ _ _ _ _ _ _ _ _ _ _ _ _ _ _ _ _ _ _ _ _ _ _ _ _ _ _ _ _ _ _ _ _ _ _ _ _ _ _ _ _ _ _ _ _ ?_
                    intro v9 v10 v29 v30 v31 v32 v33 v34 v35 v36 v37 v38 v39 v40 v41 v42 v43 v44 v45 v46 v47 v48 v49 v50 v51 v52 v53 v54 v55 v56 v57 v58 v59 v60 v61 v62 v63 v64 v65 v66 v67 v68 v69 v70 v71 v72 v73 v74 v75 v76 v77 v78 v79 v80 v81 v82 v83 v84 v85 v86 v87 v88 v89 v90 v91 v92 v93 v94 v95 v96 v97 v98 v99 v100 v101 v102 v103 v104 v105 v106 v107 v108 v109 v110 v111 v112 v113 v114 v115 v116 v117 v118 v119 v120 v121 v122 v123 v124 v125 v126 v127 v128 v129 v130 v131 v132 v133 v134 v135 v136 v137 v138 v139 v140 v141 v142 v143 v144 v145 v146 jt W g1 g2
                    go_wp2_with fail
                    go_meet
                    case rel => exact ⟨jt, rfl, g1, g2⟩
          · refine sw_end s k _ (by omega) hlt hc h1 wr _ hqz hbz (Nat.le_refl _) _ _ _ _ _ _ _ _ _ _ _ _ _ _ _ _ _ _ _ _ _ _ _ _ _ _ _ _ _ _ _ _ _ _ _ _ _ _ _ _ _ _ _ _ _ _ _ _ _ _ _ _ _ _ _ _ _ _ _ _ _ _ _ _ _ _ _ _ _ _ _ _ _ _ _ _ _ _ _ _ _ _ _ _ _ _ _ _ _ _ _ _ _ _ _ _ _ _ _ _ _ _ _ _ _ _ _ _ _ _ _ _ _ _ _ _ _ _ _ _ _ _ _ _ _ _ _ _ _ _ _ _ _ _ _ _ _ _ _ _ _ _ _ _ _ _ _ _ _ _ _ _ _ _ _ _ _ _ _ _ _ _ _ _ _ _ _ _ _ _ _ _ _ _ _ _ _ _ _ _ ?_
            intro v9 v10 v29 v30 v31 v32 v33 v34 v35 v36 v37 v38 v39 v40 v41 v42 v43 v44 v45 v46 v47 v48 v49 v50 v51 v52 v53 v54 v55 v56 v57 v58 v59 v60 v61 v62 v63 v64 v65 v66 v67 v68 v69 v70 v71 v72 v73 v74 v75 v76 v77 v78 v79 v80 v81 v82 v83 v84 v85 v86 v87 v88 v89 v90 v91 v92 v93 v94 v95 v96 v97 v98 v99 v100 v101 v102 v103 v104 v105 v106 v107 v108 v109 v110 v111 v112 v113 v114 v115 v116 v117 v118 v119 v120 v121 v122 v123 v124 v125 v126 v127 v128 v129 v130 v131 v132 v133 v134 v135 v136 v137 v138 v139 v140 v141 v142 v143 v144 v145 v146 jt W g1 g2
            go_wp2_with fail
            go_meet
            case rel => exact ⟨jt, rfl, g1, g2⟩
        case rest =>
          obtain ⟨j, rfl, hTg, hb1⟩ := hcut
          have hR1 := hR.of_bl hb1
          have hbw := hbl.trans hb1
          have hszw := Below.size hbw
          cases hO : tagP (s.drop (k + 1)) with
          | none =>
            rw [hO] at hTg
            have hto : j = -2 := hTg
            subst hto
            have HN := Lib.hid (show TokL s = tkP (s.drop (k + 1)) (x ++ [60]) out by rw [HTT.out, tkP_lone _ _ _ hO])
            clear hO hTg HTT HT HC hR hb1 hbl
            obtain ⟨v, hV, hT⟩ := hR1
            obtain ⟨a0, a1, f0, f1⟩ := hV.cells
            obtain ⟨hv1, hv2⟩ := hV.lt
            go_wp2
            go_roundw
            case rel => exact ⟨k + 1, x ++ [60], out, by omega, by go_num, HN, by first | exact RS.sett ⟨v, hV, hT⟩ (Nat.lt_succ_self _) (x ++ [60]) | simpa using RS.sett ⟨v, hV, hT⟩ (Nat.lt_succ_self _) (x ++ [60]), by first | exact hbw.setnew (Nat.le_succ _) 0 _ | simpa using hbw.setnew (Nat.le_succ _) 0 (.string ⟨(x ++ [60]).toArray⟩), by simp; omega, by omega⟩
            case measure => simp [intOf]; omega
          | some o =>
            cases o with
            | none =>
              rw [hO] at hTg
              have hto : j = -1 := hTg
              subst hto
              have HN := Lib.hid (show TokL s = tkP (s.drop s.length) (x ++ s.drop k) out by rw [HTT.out, tkP_open _ _ _ hO, List.drop_length, tkP_nil, List.drop_eq_getElem_cons hlt, HC.out])
              clear hO hTg HTT HT HC hR hb1 hbl
              obtain ⟨v, hV, hT⟩ := hR1
              obtain ⟨a0, a1, f0, f1⟩ := hV.cells
              obtain ⟨hv1, hv2⟩ := hV.lt
              have i1 : (0 : Int) ≤ (k : Int) ∧ (k : Int) ≤ (s.length : Int) := by omega
              go_upto_region 42 with fail
              go_cut [] from 12 to 178 (fun wx => RS wx (w.heap.size + 1) w.heap.size (x ++ s.drop k) out ∧ Bl w wx)
              case first =>
                go_region_with (fail)
                all_goals
                  go_wp2_with fail
                  go_meet
                  case rel => exact ⟨by first | exact RS.sett (RS.of_bl ⟨v, hV, hT⟩ (Below.drew (Bl.refl _))) (Nat.lt_succ_self _) _ | exact RS.sett ⟨v, hV, hT⟩ (Nat.lt_succ_self _) _ | exact RS.of_bl (RS.sett ⟨v, hV, hT⟩ (Nat.lt_succ_self _) _) (Below.drew (Bl.refl _)), by first | exact (Below.drew hbw).setnew (Nat.le_succ _) 0 _ | exact hbw.setnew (Nat.le_succ _) 0 _ | exact Below.drew (hbw.setnew (Nat.le_succ _) 0 _)⟩
              case rest =>
                obtain ⟨hR2, hb2⟩ := hcut
                go_wp2
                go_roundw
                case rel => exact ⟨s.length, x ++ s.drop k, out, Nat.le_refl _, rfl, HN, hR2, hb2, by simp; omega, by omega⟩
                case measure => simp [intOf]; omega
            | some p =>
              obtain ⟨o, u⟩ := p
              have hul := tagP_len _ _ _ hO
              rw [List.length_drop] at hul
              have HU := tagP_drop s k o u hO
              cases o with
              | none =>
                rw [hO] at hTg
                obtain ⟨hto, n0, va0, hq0⟩ := hTg
                obtain ⟨z0, z1, z2, z3, y0, y1, y2, y3⟩ := hq0.cells
                have hql := hq0.lt
                have HN := Lib.hid (show TokL s = tkP (s.drop (s.length - u.length)) x out by rw [HTT.out, tkP_skip _ _ _ _ hO, HU])
                have hto2 : j = ((s.length - u.length : Nat) : Int) := by omega
                subst hto2
                clear hO hto HTT HT HC hR hb1 hbl HU
                have t1 : (((s.length - u.length : Nat) : Int) == -1) = false := by simp <;> omega
                have t2 : (((s.length - u.length : Nat) : Int) == -2) = false := by simp <;> omega
                obtain ⟨m, hm⟩ : ∃ m, m = s.length - u.length := ⟨_, rfl⟩
                rw [← hm] at t1 t2 HN ⊢
                have hm1 : k < m ∧ m ≤ s.length := by omega
                clear hm hul
                go_wp2
                go_roundw
                case rel => exact ⟨m, x, out, hm1.2, rfl, HN, hR1, hbw, by omega, by omega⟩
                case measure => simp [intOf]; omega
              | some t =>
                rw [hO] at hTg
                obtain ⟨kd, n, al, x4⟩ := t
                obtain ⟨hto, h4, hk0, va, hq0, hA0⟩ := hTg
                simp only [] at h4 hk0 hq0 hA0
                subst h4
                obtain ⟨ao, ca, rfl⟩ := hA0.shape
                have hto2 : j = ((s.length - u.length : Nat) : Int) := by omega
                subst hto2
                have t1 : (((s.length - u.length : Nat) : Int) == -1) = false := by simp <;> omega
                have t2 : (((s.length - u.length : Nat) : Int) == -2) = false := by simp <;> omega
                have hk2 : (kd == 0) = false := by simpa using hk0
                have hk3 : (kd != 0) = true := by simpa using hk0
                have hnl := tagP_name _ _ _ hO
                simp only [List.length_drop] at hnl
                have NC := Lib.hid (fun W => isName_c n (by omega) W)
                have hql := hq0.lt
                have hqz : wr.heap.size ≠ w.heap.size + 1 ∧ wr.heap.size ≠ w.heap.size := by omega
                obtain ⟨m, hm⟩ : ∃ m, m = s.length - u.length := ⟨_, rfl⟩
                have hm1 : k < m ∧ m ≤ s.length := by omega
                cases hN : isNm n
                · rw [hN] at NC
                  have HN := Lib.hid (show TokL s = tkP (s.drop (s.length - u.length)) x out by rw [HTT.out, tkP_tagno _ _ _ _ _ hO hN, HU])
                  rw [← hm] at t1 t2 HN ⊢
                  clear hO hto hN HU hk0 HTT HT HC hR hb1 hbl hm hul
                  obtain ⟨z0, z1, z2, z3, y0, y1, y2, y3⟩ := hq0.cells
                  go_wp2_with (go_at_call 21; (with_reducible refine (NC.out _).mono ?_); rintro e w7 ⟨rfl, rfl⟩)
                  go_roundw
                  case rel => exact ⟨m, x, out, hm1.2, rfl, HN, hR1, hbw, by omega, by omega⟩
                  case measure => simp [intOf]; omega
                · rw [hN] at NC
                  have HN := Lib.hid (show TokL s = tkP (s.drop (s.length - u.length)) [] (flsh x out ++ [(kd, n, al, [])]) by rw [HTT.out, tkP_tag _ _ _ _ _ hO hN, HU])
                  rw [← hm] at t1 t2 HN ⊢
                  have hfl : (flsh x out).length ≤ out.length + 1 := by have := flsh_len x out; split at this <;> omega
                  obtain ⟨v, hV, hT⟩ := hR
                  have hvlt := hT.lt
                  replace hV := hV.of_bl hb1
                  replace hT := hT.of_bl hb1
                  clear hO hto hN HU hk0 HTT HT HC hR1 hb1 hbl hm hul
                  have KC := Lib.hid (fun W h1 h2 => flushR_c (w.heap.size + 1) w.heap.size x out v W h1 h2 (Nat.lt_succ_self _) (by omega) (by omega))
                  have OW : (Value.slice ao al.length ca).ownBlock = none ∨ (Value.slice ao al.length ca).ownBlock ≠ v.ownBlock := by
                    obtain ⟨ents0, -, d2, -⟩ := hT
                    exact two_rows hA0 d2 (by decide)
                  obtain ⟨z0, z1, z2, z3, y0, y1, y2, y3⟩ := hq0.cells
                  have hvl2 := hV.lt
                  obtain ⟨b0, b1, p0, p1⟩ := hV.cells
                  obtain ⟨fl, hfe⟩ : ∃ fl, fl = flsh x out := ⟨_, rfl⟩
                  rw [← hfe] at HN KC hfl
                  clear hfe
                  go_wp2_with (first | (go_at_call 21; (with_reducible refine (NC.out _).mono ?_); rintro e w7 ⟨rfl, rfl⟩) | (go_at_call 23; (with_reducible refine (KC.out _ hV hT).mono ?_); rintro e w8 ⟨rfl, hR8, hF8⟩; obtain ⟨v8, hV8, hT8⟩ := hR8; have hq8 := hq0.of_fr3 hF8 hqz.1 hqz.2 (fun e => by have := (hvlt _ e.symm).1; have := (hvlt _ e.symm).2; omega); have hA8 := own_fr3 (own_base hA0 hszr) hF8 (Nat.lt_succ_self _) (Nat.lt_succ_of_lt (Nat.lt_succ_self _)) OW; have hB8 : Bl w w8 := Below.trans hbw (hF8.below (k := w.heap.size) (Nat.le_succ _) (Nat.le_refl _) (fun j hj => (by have := (hvlt j hj).1; omega)) (Below.size hbw)); clear z0 z1 z2 z3 y0 y1 y2 y3 b0 b1 p0 p1; obtain ⟨z0, z1, z2, z3, y0, y1, y2, y3⟩ := hq8.cells; obtain ⟨b0, b1, p0, p1⟩ := hV8.cells; have hvl8 := hV8.lt; have hql8 := hq8.lt; obtain ⟨ents, e1, e2, e3⟩ := hT8; have hel : ents.length ≤ out.length + 1 := (by have h := congrArg List.length e1; rw [List.length_map] at h; omega)) | (at_builtin; refine wpList_append_own _ rfl _ _ 22 rfl (w.heap.size + 1 + 1) 37 i0 (.agg #[.int .i64 0, .string ⟨#[]⟩, .slice none 0 0, .string ⟨#[]⟩]) 4 64 Tryz.underlying22 hi hz0 hz1 hz2 rfl (by decide) _ _ _ rfl (World.ownsRow.alloc e2 _) ⟨w8.heap.size, 0, none⟩ 1 1 [.int .i64 kd, .string ⟨n.toArray⟩, .slice ao al.length ca, .string ⟨#[]⟩] rfl rfl (new_cells w8 #[.int .i64 kd, .string ⟨n.toArray⟩, .slice ao al.length ca, .string ⟨#[]⟩] _) (by simp [Value.oneCell']) (by unfold maxLen; omega) (by omega) (by simp; omega) ?_))
                  intro v' wz hown' hgrow _
                  obtain ⟨gv, cv, rfl⟩ := own_shape hown'
                  have m1 := tk_meet (t := (kd, n, al, [])) (va := .slice ao al.length ca) e1 (World.ownsRow.alloc e2 _) (fun p hp => (e3 p hp).of_bl ((Bl.refl _).alloc _)) (own_bl hA8 ((Bl.refl _).alloc _)) hown' hgrow
                  have hvb := World.ownsRow.lt e2
                  have hVz : TV wz (w.heap.size + 1) w.heap.size [] v8 := (hV8.of_bl ((Bl.refl _).alloc _)).of_gb hgrow (fun e => by have := (hvb _ e.symm).1; omega) (fun e => by have := (hvb _ e.symm).1; omega)
                  have hs8 := Below.size hB8
                  have hBz : Bl w wz := Below.trans (hB8.alloc _) (below_gr (k := w.heap.size) hgrow (fun j hj => by have := (hvb j hj).1; omega) (by simp; omega))
                  clear hown' hgrow b0 b1 p0 p1 z0 z1 z2 z3 y0 y1 y2 y3
                  obtain ⟨b0, b1, p0, p1⟩ := hVz.cells
                  have hvlz := hVz.lt
                  go_wp2
                  go_roundw
                  case rel => exact ⟨m, [], fl ++ [(kd, n, al, [])], hm1.2, rfl, HN, RS.seto hVz (Nat.lt_succ_self _) m1, hBz.setnew (Nat.le_refl _) 0 _, by simp, by simp; omega⟩
                  case measure => simp [intOf]; omega
      · obtain ⟨f60, g60⟩ : ((s[k].toNat : Int) == 60) = false ∧ ((s[k].toNat : Int) != 60) = true := c_ne s[k] 60 (by decide) hc
        have HN := Lib.hid (show TokL s = tkP (s.drop (k + 1)) (x ++ [s[k]]) out by rw [HT.out, HD, tkP_plain _ _ _ _ hc])
        have HS := Lib.hid (take_one s k hlt)
        clear HT HD hc
        obtain ⟨v, hV, hT⟩ := hR
        obtain ⟨a0, a1, f0, f1⟩ := hV.cells
        obtain ⟨hv1, hv2⟩ := hV.lt
        have hbw := hbl
        have i1 : (0 : Int) ≤ (k : Int) ∧ (k : Int) ≤ (s.length : Int) := by omega
        go_upto_region 7 with fail
        go_cut [] from 12 to 178 (fun wx => RS wx (w.heap.size + 1) w.heap.size (x ++ [s[k]]) out ∧ Bl w wx)
        case first =>
          have W1 : IntKind.i64.wrap ((k : Int) + 1) = (k : Int) + 1 := by go_arith
          have W3 : ((k : Int) + 1).toNat = k + 1 := by omega
          go_region
          all_goals
            go_wp2_with fail
            go_meet
            case rel => rw [← HS.out]; exact ⟨by first | exact RS.sett (RS.of_bl ⟨v, hV, hT⟩ (Below.drew (Bl.refl _))) (Nat.lt_succ_self _) _ | exact RS.sett ⟨v, hV, hT⟩ (Nat.lt_succ_self _) _ | exact RS.of_bl (RS.sett ⟨v, hV, hT⟩ (Nat.lt_succ_self _) _) (Below.drew (Bl.refl _)), by first | exact (Below.drew hbw).setnew (Nat.le_succ _) 0 _ | exact hbw.setnew (Nat.le_succ _) 0 _ | exact Below.drew (hbw.setnew (Nat.le_succ _) 0 _)⟩
        case rest =>
          obtain ⟨hR2, hb2⟩ := hcut
          go_wp2
          go_roundw
          case rel => exact ⟨k + 1, x ++ [s[k]], out, by omega, by go_num, HN, hR2, hb2, by simp; omega, by omega⟩
          case measure => simp [intOf]; omega
    · obtain rfl : k = s.length := by omega
      have HN := Lib.hid (show TokL s = flsh x out by rw [HT.out, List.drop_length, tkP_nil])
      clear HT hlt
      obtain ⟨v, hV, hT⟩ := hR
      have hvlt := hT.lt
      have KC := Lib.hid (fun W h1 h2 => flushR_c (w.heap.size + 1) w.heap.size x out v W h1 h2 (Nat.lt_succ_self _) (by omega) (by omega))
      go_wp2_with (go_at_call 23; (with_reducible refine (KC.out _ hV hT).mono ?_); rintro e w8 ⟨rfl, ⟨v8, hV8, hT8⟩, hF8⟩; obtain ⟨a0, a1, f0, f1⟩ := hV8.cells)
      go_ret
      exact ⟨_, rfl, by rw [HN.out]; exact hT8.tks, Below.trans hbl (hF8.below (k := w.heap.size) (Nat.le_succ _) (Nat.le_refl _) (fun j hj => by have := (hvlt j hj).1; omega) (Below.size hbl))⟩
end Go.Proofs.YtoaecehkmoehjaaGreatDoor

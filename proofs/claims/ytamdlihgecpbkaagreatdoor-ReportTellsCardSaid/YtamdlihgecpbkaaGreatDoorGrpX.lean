/- Tokens: the reference: tags in TokensOf (printed by gen_tokof.py). · Tokens: what stands behind what has been read is a text's end. -/
import Derived.Test.YtamdlihgecpbkaaGreatDoorTokRk
set_option maxRecDepth 100000
set_option maxHeartbeats 4000000
namespace Go.Proofs.YtamdlihgecpbkaaGreatDoor
open Go.RowKit
theorem sw_open (s : List UInt8) (k q : Nat) (hs : s.length ≤ 1073741824) (hlt : k < s.length) (_hc : s[k] = 60) (h1 : k + 1 < s.length) (hL : ltr s[k + 1] = true) (w wr : World) (hq0 : Tkb wr q 0 [] (.slice none 0 0)) (hb0 : Bl w wr) (hq : w.heap.size ≤ q) (u1 u2 u3 u4 u5 u9 u10 u11 u12 u13 u14 u15 u16 u17 u18 u19 u20 u21 u22 u23 u24 u25 u26 u27 u28 u29 u30 u31 u32 u33 u34 u35 u36 u37 u38 u39 u40 u41 u42 u43 u44 u45 u46 u47 u48 u49 u50 u51 u52 u53 u54 u55 u56 u57 u58 u59 u60 u61 u62 u63 u64 u65 u66 u67 u68 u69 u70 u71 u72 u73 u74 u75 u76 u77 u78 u79 u80 u81 u82 u83 u84 u85 u86 u87 u88 u89 u90 u91 u92 u93 u94 u95 u96 u97 u98 u99 u100 u101 u102 u103 u104 u105 u106 u107 u108 u109 u110 u111 u112 u113 u114 u115 u116 u117 u118 u119 u120 u121 u122 u123 u124 u125 u126 u127 u128 u129 u130 u131 u132 u133 u134 u135 u136 u137 u138 u139 u140 u141 u142 u143 u144 u145 u146 u147 u148 u149 u150 u151 u152 u153 u154 u155 u156 u157 u158 u159 u160 u161 u162 u163 u164 u165 u166 u167 u168 u169 u170 u171 u172 u173 u174 u175 u176 u177 u178 u179 u180 u181 : Value) (K : Act → World → Prop) (Q' : Exit → Act → World → Prop)
 (hK : ∀ (v9 v10 v29 v30 v31 v32 v33 v34 v35 v36 v37 v38 v39 v40 v41 v42 v43 v44 v45 v46 v47 v48 v49 v50 v51 v52 v53 v54 v55 v56 v57 v58 v59 v60 v61 v62 v63 v64 v65 v66 v67 v68 v69 v70 v71 v72 v73 v74 v75 v76 v77 v78 v79 v80 v81 v82 v83 v84 v85 v86 v87 v88 v89 v90 v91 v92 v93 v94 v95 v96 v97 v98 v99 v100 v101 v102 v103 v104 v105 v106 v107 v108 v109 v110 v111 v112 v113 v114 v115 v116 v117 v118 v119 v120 v121 v122 v123 v124 v125 v126 v127 v128 v129 v130 v131 v132 v133 v134 v135 v136 v137 v138 v139 v140 v141 v142 v143 v144 v145 v146 : Value) (jt : Int) (W : World), TgR W w.heap.size q s.length (tagP (s.drop (k + 1))) jt → Bl w W → K ⟨(List.toArray (.string ⟨s.toArray⟩ :: u1 :: u2 :: u3 :: u4 :: u5 :: .int .i64 (k : Int) :: .int .i64 jt :: .pointer (some ⟨q, 0, none⟩) :: v9 :: v10 :: u11 :: u12 :: u13 :: u14 :: u15 :: u16 :: u17 :: u18 :: u19 :: u20 :: u21 :: u22 :: u23 :: u24 :: u25 :: u26 :: u27 :: u28 :: v29 :: v30 :: v31 :: v32 :: v33 :: v34 :: v35 :: v36 :: v37 :: v38 :: v39 :: v40 :: v41 :: v42 :: v43 :: v44 :: v45 :: v46 :: v47 :: v48 :: v49 :: v50 :: v51 :: v52 :: v53 :: v54 :: v55 :: v56 :: v57 :: v58 :: v59 :: v60 :: v61 :: v62 :: v63 :: v64 :: v65 :: v66 :: v67 :: v68 :: v69 :: v70 :: v71 :: v72 :: v73 :: v74 :: v75 :: v76 :: v77 :: v78 :: v79 :: v80 :: v81 :: v82 :: v83 :: v84 :: v85 :: v86 :: v87 :: v88 :: v89 :: v90 :: v91 :: v92 :: v93 :: v94 :: v95 :: v96 :: v97 :: v98 :: v99 :: v100 :: v101 :: v102 :: v103 :: v104 :: v105 :: v106 :: v107 :: v108 :: v109 :: v110 :: v111 :: v112 :: v113 :: v114 :: v115 :: v116 :: v117 :: v118 :: v119 :: v120 :: v121 :: v122 :: v123 :: v124 :: v125 :: v126 :: v127 :: v128 :: v129 :: v130 :: v131 :: v132 :: v133 :: v134 :: v135 :: v136 :: v137 :: v138 :: v139 :: v140 :: v141 :: v142 :: v143 :: v144 :: v145 :: v146 :: u147 :: u148 :: u149 :: u150 :: u151 :: u152 :: u153 :: u154 :: u155 :: u156 :: u157 :: u158 :: u159 :: u160 :: u161 :: u162 :: u163 :: u164 :: u165 :: u166 :: u167 :: u168 :: u169 :: u170 :: u171 :: u172 :: u173 :: u174 :: u175 :: u176 :: u177 :: u178 :: u179 :: u180 :: u181 :: [])), []⟩ W) :
 Code.wp Tryz.prog tob2 (Exit.then K Q') ⟨(List.toArray (.string ⟨s.toArray⟩ :: u1 :: u2 :: u3 :: u4 :: u5 :: .int .i64 (k : Int) :: .int .i64 (-2) :: .pointer (some ⟨q, 0, none⟩) :: u9 :: u10 :: u11 :: u12 :: u13 :: u14 :: u15 :: u16 :: u17 :: u18 :: u19 :: u20 :: u21 :: u22 :: u23 :: u24 :: u25 :: u26 :: u27 :: u28 :: u29 :: u30 :: u31 :: u32 :: u33 :: u34 :: u35 :: u36 :: u37 :: u38 :: u39 :: u40 :: u41 :: u42 :: u43 :: u44 :: u45 :: u46 :: u47 :: u48 :: u49 :: u50 :: u51 :: u52 :: u53 :: u54 :: u55 :: u56 :: u57 :: u58 :: u59 :: u60 :: u61 :: u62 :: u63 :: u64 :: u65 :: u66 :: u67 :: u68 :: u69 :: u70 :: u71 :: u72 :: u73 :: u74 :: u75 :: u76 :: u77 :: u78 :: u79 :: u80 :: u81 :: u82 :: u83 :: u84 :: u85 :: u86 :: u87 :: u88 :: u89 :: u90 :: u91 :: u92 :: u93 :: u94 :: u95 :: u96 :: u97 :: u98 :: u99 :: u100 :: u101 :: u102 :: u103 :: u104 :: u105 :: u106 :: u107 :: u108 :: u109 :: u110 :: u111 :: u112 :: u113 :: u114 :: u115 :: u116 :: u117 :: u118 :: u119 :: u120 :: u121 :: u122 :: u123 :: u124 :: u125 :: u126 :: u127 :: u128 :: u129 :: u130 :: u131 :: u132 :: u133 :: u134 :: u135 :: u136 :: u137 :: u138 :: u139 :: u140 :: u141 :: u142 :: u143 :: u144 :: u145 :: u146 :: u147 :: u148 :: u149 :: u150 :: u151 :: u152 :: u153 :: u154 :: u155 :: u156 :: u157 :: u158 :: u159 :: u160 :: u161 :: u162 :: u163 :: u164 :: u165 :: u166 :: u167 :: u168 :: u169 :: u170 :: u171 :: u172 :: u173 :: u174 :: u175 :: u176 :: u177 :: u178 :: u179 :: u180 :: u181 :: [])), []⟩ wr := by
 have HD : s.drop k = s[k] :: s.drop (k + 1) := List.drop_eq_getElem_cons hlt; have hlt2 : (k : Int) + 1 ≤ (s.length : Int) := by omega
 obtain ⟨z0, z1, z2, z3, y0, y1, y2, y3⟩ := hq0.cells; have hql := hq0.lt; conv => arg 2; whnf
 have hr : s.drop (k + 1) = s[k + 1] :: s.drop (k + 2) := List.drop_eq_getElem_cons h1; have h1i : (k : Int) + 1 < (s.length : Int) := by omega
 have LC := Lib.hid (fun W => isLetter_c s[k + 1] W); rw [hL] at LC; have h47 : s[k + 1] ≠ 47 := fun e => by rw [e] at hL; exact absurd hL (by decide)
 obtain ⟨f47, g47⟩ : ((s[k + 1].toNat : Int) == 47) = false ∧ ((s[k + 1].toNat : Int) != 47) = true := c_ne s[k + 1] 47 (by decide) h47; obtain ⟨E, sc⟩ := scan tch s (k + 1) (by omega); have hE := sc.ub; have hEk := sc.le; have hO : tagP (s.drop (k + 1)) = some ((atP (s.drop E) []).map fun x => (some (2, fold ((s.drop (k + 1)).take (E - (k + 1))), x.1, []), x.2)) := by
  have e1 := sc.dw; have e2 := sc.tw; rw [hr] at e1 e2 ⊢; rw [tagP_cons, if_pos hL, e1, e2]
 clear hr _hc; clear HD; have FC := Lib.hid (fun W => foldOf_c ((s.drop (k + 1)).take (E - (k + 1))) (by simp only [List.length_take, List.length_drop]; omega) W); obtain ⟨n, hn⟩ : ∃ n, n = fold ((s.drop (k + 1)).take (E - (k + 1))) := ⟨_, rfl⟩; rw [← hn] at FC hO; clear hn; have i1 : (0 : Int) ≤ (E : Int) ∧ (E : Int) ≤ (s.length : Int) := by omega
 have i3 : (k : Int) + 1 ≤ (E : Int) := by omega
 have i4 : ((k : Int) + 1).toNat = k + 1 := by omega
 go_upto_block 3 with (go_at_call 95; (with_reducible refine (LC.out _).mono ?_); rintro e w7 ⟨rfl, rfl⟩)
 refine tolp3 s (k + 1) E _ (by first | rfl | omega | simp) hs sc _ _ _ _ _ _ _ _ _ _ _ _ _ _ _ _ _ _ _ _ _ _ _ _ _ _ _ _ _ _ _ _ _ _ _ _ _ _ _ _ _ _ _ _ _ _ _ _ _ _ _ _ _ _ _ _ _ _ _ _ _ _ _ _ _ _ _ _ _ _ _ _ _ _ _ _ _ _ _ _ _ _ _ _ _ _ _ _ _ _ _ _ _ _ _ _ _ _ _ _ _ _ _ _ _ _ _ _ _ _ _ _ _ _ _ _ _ _ _ _ _ _ _ _ _ _ _ _ _ _ _ _ _ _ _ _ _ _ _ _ _ _ _ _ _ _ _ _ _ _ _ _ _ _ _ _ _ _ _ _ _ _ _ _ _ _ _ _ _ _ _ _ _ _ _ _ _ _ _ _ _ _ _ ?_; intro v70 v71 v72 v73 v74 v75 v76 v77 v78 v79 v80 v81 v82 v83 v84 v85 v86 v87 v88 v89 v90 v91 v92 v93 v94; clear sc; have hq1 := hq0.set0 2; have hb1 : Bl w (wr.setCell ⟨q, 0, none⟩ (.int .i64 2)) := hb0.setnew hq 0 _; obtain ⟨w1, hw1⟩ : ∃ w1, w1 = wr.setCell ⟨q, 0, none⟩ (.int .i64 2) := ⟨_, rfl⟩; rw [← hw1] at hq1 hb1 ⊢; clear hw1 z0 z1 z2 z3 y0 y1 y2 y3 hq0; obtain ⟨z0, z1, z2, z3, y0, y1, y2, y3⟩ := hq1.cells; have hql := hq1.lt; have AC := Lib.hid (fun W => attrsAt_c s E (by omega) hE W); cases hat : atP (s.drop E) [] with
 | none =>
   rw [hat] at AC hO; have HO := Lib.hid hO; clear hat hO; go_wp2_with (first | (go_at_call 37; (with_reducible refine (FC.out _).mono ?_); rintro e w4 ⟨rfl, hb4⟩; have hq4 := hq1.of_bl hb4; clear z0 z1 z2 z3 y0 y1 y2 y3; obtain ⟨z0, z1, z2, z3, y0, y1, y2, y3⟩ := hq4.cells; have hql4 := hq4.lt; have hq5 := hq4.set1 n; have hb5 := (hb1.trans hb4).setnew hq 1 (.string ⟨n.toArray⟩)) | (go_at_call 104; (with_reducible refine (AC.out _).mono ?_); rintro e w6 ⟨hb6, rfl⟩; have hq6 := hq5.of_bl hb6; clear z0 z1 z2 z3 y0 y1 y2 y3; obtain ⟨z0, z1, z2, z3, y0, y1, y2, y3⟩ := hq6.cells; have hql6 := hq6.lt)); exact hK _ _ _ _ _ _ _ _ _ _ _ _ _ _ _ _ _ _ _ _ _ _ _ _ _ _ _ _ _ _ _ _ _ _ _ _ _ _ _ _ _ _ _ _ _ _ _ _ _ _ _ _ _ _ _ _ _ _ _ _ _ _ _ _ _ _ _ _ _ _ _ _ _ _ _ _ _ _ _ _ _ _ _ _ _ _ _ _ _ _ _ _ _ _ _ _ _ _ _ _ _ _ _ _ _ _ _ _ _ _ _ _ _ _ _ _ _ _ _ _ _ _ (by rw [HO.out]; rfl) ((hb5.trans hb6).setnew hq 2 _)
 | some au =>
   obtain ⟨al, u⟩ := au; rw [hat] at AC hO; have HO := Lib.hid hO; clear hat hO; go_wp2_with (first | (go_at_call 37; (with_reducible refine (FC.out _).mono ?_); rintro e w4 ⟨rfl, hb4⟩; have hq4 := hq1.of_bl hb4; clear z0 z1 z2 z3 y0 y1 y2 y3; obtain ⟨z0, z1, z2, z3, y0, y1, y2, y3⟩ := hq4.cells; have hql4 := hq4.lt; have hq5 := hq4.set1 n; have hb5 := (hb1.trans hb4).setnew hq 1 (.string ⟨n.toArray⟩)) | (go_at_call 104; (with_reducible refine (AC.out _).mono ?_); rintro e w6 ⟨hb6, va, n6, rfl, rfl, hO6⟩; obtain ⟨ao, ca, rfl⟩ := hO6.shape; have hO7 := hO6; have hq6 := hq5.of_bl hb6; clear z0 z1 z2 z3 y0 y1 y2 y3; obtain ⟨z0, z1, z2, z3, y0, y1, y2, y3⟩ := hq6.cells; have hql6 := hq6.lt)); exact hK _ _ _ _ _ _ _ _ _ _ _ _ _ _ _ _ _ _ _ _ _ _ _ _ _ _ _ _ _ _ _ _ _ _ _ _ _ _ _ _ _ _ _ _ _ _ _ _ _ _ _ _ _ _ _ _ _ _ _ _ _ _ _ _ _ _ _ _ _ _ _ _ _ _ _ _ _ _ _ _ _ _ _ _ _ _ _ _ _ _ _ _ _ _ _ _ _ _ _ _ _ _ _ _ _ _ _ _ _ _ _ _ _ _ _ _ _ _ _ _ _ _ (by rw [HO.out]; exact ⟨rfl, rfl, by show (2 : Int) ≠ 0; decide, .slice ao al.length ca, hq6.set2 _, AtO.setk (hO7.base_le (Below.size hb5)) hq6 _⟩) ((hb5.trans hb6).setnew hq 2 _)
theorem sw_close (s : List UInt8) (k q : Nat) (hs : s.length ≤ 1073741824) (hlt : k < s.length) (hc : s[k] = 60) (h1 : k + 1 < s.length) (hL : ltr s[k + 1] = false) (h47 : s[k + 1] = 47) (h2 : k + 2 < s.length) (hM : ltr s[k + 2] = true) (w wr : World) (hq0 : Tkb wr q 0 [] (.slice none 0 0)) (hb0 : Bl w wr) (hq : w.heap.size ≤ q) (u1 u2 u3 u4 u5 u9 u10 u11 u12 u13 u14 u15 u16 u17 u18 u19 u20 u21 u22 u23 u24 u25 u26 u27 u28 u29 u30 u31 u32 u33 u34 u35 u36 u37 u38 u39 u40 u41 u42 u43 u44 u45 u46 u47 u48 u49 u50 u51 u52 u53 u54 u55 u56 u57 u58 u59 u60 u61 u62 u63 u64 u65 u66 u67 u68 u69 u70 u71 u72 u73 u74 u75 u76 u77 u78 u79 u80 u81 u82 u83 u84 u85 u86 u87 u88 u89 u90 u91 u92 u93 u94 u95 u96 u97 u98 u99 u100 u101 u102 u103 u104 u105 u106 u107 u108 u109 u110 u111 u112 u113 u114 u115 u116 u117 u118 u119 u120 u121 u122 u123 u124 u125 u126 u127 u128 u129 u130 u131 u132 u133 u134 u135 u136 u137 u138 u139 u140 u141 u142 u143 u144 u145 u146 u147 u148 u149 u150 u151 u152 u153 u154 u155 u156 u157 u158 u159 u160 u161 u162 u163 u164 u165 u166 u167 u168 u169 u170 u171 u172 u173 u174 u175 u176 u177 u178 u179 u180 u181 : Value) (K : Act → World → Prop) (Q' : Exit → Act → World → Prop)
 (hK : ∀ (v9 v10 v29 v30 v31 v32 v33 v34 v35 v36 v37 v38 v39 v40 v41 v42 v43 v44 v45 v46 v47 v48 v49 v50 v51 v52 v53 v54 v55 v56 v57 v58 v59 v60 v61 v62 v63 v64 v65 v66 v67 v68 v69 v70 v71 v72 v73 v74 v75 v76 v77 v78 v79 v80 v81 v82 v83 v84 v85 v86 v87 v88 v89 v90 v91 v92 v93 v94 v95 v96 v97 v98 v99 v100 v101 v102 v103 v104 v105 v106 v107 v108 v109 v110 v111 v112 v113 v114 v115 v116 v117 v118 v119 v120 v121 v122 v123 v124 v125 v126 v127 v128 v129 v130 v131 v132 v133 v134 v135 v136 v137 v138 v139 v140 v141 v142 v143 v144 v145 v146 : Value) (jt : Int) (W : World), TgR W w.heap.size q s.length (tagP (s.drop (k + 1))) jt → Bl w W → K ⟨(List.toArray (.string ⟨s.toArray⟩ :: u1 :: u2 :: u3 :: u4 :: u5 :: .int .i64 (k : Int) :: .int .i64 jt :: .pointer (some ⟨q, 0, none⟩) :: v9 :: v10 :: u11 :: u12 :: u13 :: u14 :: u15 :: u16 :: u17 :: u18 :: u19 :: u20 :: u21 :: u22 :: u23 :: u24 :: u25 :: u26 :: u27 :: u28 :: v29 :: v30 :: v31 :: v32 :: v33 :: v34 :: v35 :: v36 :: v37 :: v38 :: v39 :: v40 :: v41 :: v42 :: v43 :: v44 :: v45 :: v46 :: v47 :: v48 :: v49 :: v50 :: v51 :: v52 :: v53 :: v54 :: v55 :: v56 :: v57 :: v58 :: v59 :: v60 :: v61 :: v62 :: v63 :: v64 :: v65 :: v66 :: v67 :: v68 :: v69 :: v70 :: v71 :: v72 :: v73 :: v74 :: v75 :: v76 :: v77 :: v78 :: v79 :: v80 :: v81 :: v82 :: v83 :: v84 :: v85 :: v86 :: v87 :: v88 :: v89 :: v90 :: v91 :: v92 :: v93 :: v94 :: v95 :: v96 :: v97 :: v98 :: v99 :: v100 :: v101 :: v102 :: v103 :: v104 :: v105 :: v106 :: v107 :: v108 :: v109 :: v110 :: v111 :: v112 :: v113 :: v114 :: v115 :: v116 :: v117 :: v118 :: v119 :: v120 :: v121 :: v122 :: v123 :: v124 :: v125 :: v126 :: v127 :: v128 :: v129 :: v130 :: v131 :: v132 :: v133 :: v134 :: v135 :: v136 :: v137 :: v138 :: v139 :: v140 :: v141 :: v142 :: v143 :: v144 :: v145 :: v146 :: u147 :: u148 :: u149 :: u150 :: u151 :: u152 :: u153 :: u154 :: u155 :: u156 :: u157 :: u158 :: u159 :: u160 :: u161 :: u162 :: u163 :: u164 :: u165 :: u166 :: u167 :: u168 :: u169 :: u170 :: u171 :: u172 :: u173 :: u174 :: u175 :: u176 :: u177 :: u178 :: u179 :: u180 :: u181 :: [])), []⟩ W) :
 Code.wp Tryz.prog tob2 (Exit.then K Q') ⟨(List.toArray (.string ⟨s.toArray⟩ :: u1 :: u2 :: u3 :: u4 :: u5 :: .int .i64 (k : Int) :: .int .i64 (-2) :: .pointer (some ⟨q, 0, none⟩) :: u9 :: u10 :: u11 :: u12 :: u13 :: u14 :: u15 :: u16 :: u17 :: u18 :: u19 :: u20 :: u21 :: u22 :: u23 :: u24 :: u25 :: u26 :: u27 :: u28 :: u29 :: u30 :: u31 :: u32 :: u33 :: u34 :: u35 :: u36 :: u37 :: u38 :: u39 :: u40 :: u41 :: u42 :: u43 :: u44 :: u45 :: u46 :: u47 :: u48 :: u49 :: u50 :: u51 :: u52 :: u53 :: u54 :: u55 :: u56 :: u57 :: u58 :: u59 :: u60 :: u61 :: u62 :: u63 :: u64 :: u65 :: u66 :: u67 :: u68 :: u69 :: u70 :: u71 :: u72 :: u73 :: u74 :: u75 :: u76 :: u77 :: u78 :: u79 :: u80 :: u81 :: u82 :: u83 :: u84 :: u85 :: u86 :: u87 :: u88 :: u89 :: u90 :: u91 :: u92 :: u93 :: u94 :: u95 :: u96 :: u97 :: u98 :: u99 :: u100 :: u101 :: u102 :: u103 :: u104 :: u105 :: u106 :: u107 :: u108 :: u109 :: u110 :: u111 :: u112 :: u113 :: u114 :: u115 :: u116 :: u117 :: u118 :: u119 :: u120 :: u121 :: u122 :: u123 :: u124 :: u125 :: u126 :: u127 :: u128 :: u129 :: u130 :: u131 :: u132 :: u133 :: u134 :: u135 :: u136 :: u137 :: u138 :: u139 :: u140 :: u141 :: u142 :: u143 :: u144 :: u145 :: u146 :: u147 :: u148 :: u149 :: u150 :: u151 :: u152 :: u153 :: u154 :: u155 :: u156 :: u157 :: u158 :: u159 :: u160 :: u161 :: u162 :: u163 :: u164 :: u165 :: u166 :: u167 :: u168 :: u169 :: u170 :: u171 :: u172 :: u173 :: u174 :: u175 :: u176 :: u177 :: u178 :: u179 :: u180 :: u181 :: [])), []⟩ wr := by
 have HD : s.drop k = s[k] :: s.drop (k + 1) := List.drop_eq_getElem_cons hlt; have hlt2 : (k : Int) + 1 ≤ (s.length : Int) := by omega
 obtain ⟨z0, z1, z2, z3, y0, y1, y2, y3⟩ := hq0.cells; have hql := hq0.lt; conv => arg 2; whnf
 have hr : s.drop (k + 1) = s[k + 1] :: s.drop (k + 2) := List.drop_eq_getElem_cons h1; have h1i : (k : Int) + 1 < (s.length : Int) := by omega
 have LC := Lib.hid (fun W => isLetter_c s[k + 1] W); rw [hL] at LC; have LD := Lib.hid (fun W => isLetter_c s[k + 2] W); rw [hM] at LD; obtain ⟨f47, g47⟩ : ((s[k + 1].toNat : Int) == 47) = true ∧ ((s[k + 1].toNat : Int) != 47) = false := c_eq s[k + 1] 47 (by decide) h47; have h2i : (k : Int) + 2 < (s.length : Int) := by omega
 have LE := Lib.hid (fun W => isLetter_47 W); have S1 := Lib.hid (fun W => startsAt_c s [60, 47] k (by omega) (by decide) (by omega) W); rw [HD, show pre [60, 47] (s[k] :: s.drop (k + 1)) = true by rw [hc, pre_one]; rw [hr, h47, pre_one]; rfl] at S1; obtain ⟨E, sc⟩ := scan tch s (k + 2) (by omega); have hE := sc.ub; have hEk := sc.le; have hO : tagP (s.drop (k + 1)) = some ((cutS [62] (s.drop E)).map fun x => (some (3, fold ((s.drop (k + 2)).take (E - (k + 2))), [], []), x)) := by
  have e1 := sc.dw; have e2 := sc.tw; rw [hr, tagP_cons, if_neg (by rw [hL]; decide), if_pos ⟨h47, by rw [List.drop_eq_getElem_cons h2]; exact hM⟩, e1, e2]
 clear hr hc h47; clear HD; have FC := Lib.hid (fun W => foldOf_c ((s.drop (k + 2)).take (E - (k + 2))) (by simp only [List.length_take, List.length_drop]; omega) W); obtain ⟨n, hn⟩ : ∃ n, n = fold ((s.drop (k + 2)).take (E - (k + 2))) := ⟨_, rfl⟩; rw [← hn] at FC hO; clear hn; have i1 : (0 : Int) ≤ (E : Int) ∧ (E : Int) ≤ (s.length : Int) := by omega
 have i3 : (k : Int) + 2 ≤ (E : Int) := by omega
 have i4 : ((k : Int) + 2).toNat = k + 2 := by omega
 go_upto_block 3 with (first | (go_at_call 95; (with_reducible refine (LC.out _).mono ?_); rintro e w7 ⟨rfl, rfl⟩) | (go_at_call 95; (with_reducible refine (LD.out _).mono ?_); rintro e w7 ⟨rfl, rfl⟩) | (go_at_call 95; (with_reducible refine (LE.out _).mono ?_); rintro e w7 ⟨rfl, rfl⟩) | (go_at_call 69; (with_reducible refine (S1.out _).mono ?_); rintro e w7 ⟨rfl, rfl⟩))
 refine tolp3 s (k + 2) E _ (by first | rfl | omega | simp) hs sc _ _ _ _ _ _ _ _ _ _ _ _ _ _ _ _ _ _ _ _ _ _ _ _ _ _ _ _ _ _ _ _ _ _ _ _ _ _ _ _ _ _ _ _ _ _ _ _ _ _ _ _ _ _ _ _ _ _ _ _ _ _ _ _ _ _ _ _ _ _ _ _ _ _ _ _ _ _ _ _ _ _ _ _ _ _ _ _ _ _ _ _ _ _ _ _ _ _ _ _ _ _ _ _ _ _ _ _ _ _ _ _ _ _ _ _ _ _ _ _ _ _ _ _ _ _ _ _ _ _ _ _ _ _ _ _ _ _ _ _ _ _ _ _ _ _ _ _ _ _ _ _ _ _ _ _ _ _ _ _ _ _ _ _ _ _ _ _ _ _ _ _ _ _ _ _ _ _ _ _ _ _ _ ?_; intro v70 v71 v72 v73 v74 v75 v76 v77 v78 v79 v80 v81 v82 v83 v84 v85 v86 v87 v88 v89 v90 v91 v92 v93 v94; clear sc; have hq1 := (hq0.set0 2).set0 3; have hb1 : Bl w ((wr.setCell ⟨q, 0, none⟩ (.int .i64 2)).setCell ⟨q, 0, none⟩ (.int .i64 3)) := (hb0.setnew hq 0 _).setnew hq 0 _; obtain ⟨w1, hw1⟩ : ∃ w1, w1 = (wr.setCell ⟨q, 0, none⟩ (.int .i64 2)).setCell ⟨q, 0, none⟩ (.int .i64 3) := ⟨_, rfl⟩; rw [← hw1] at hq1 hb1 ⊢; clear hw1 z0 z1 z2 z3 y0 y1 y2 y3 hq0; obtain ⟨z0, z1, z2, z3, y0, y1, y2, y3⟩ := hq1.cells; have hql := hq1.lt; have XC := Lib.hid (fun W => nextOf_c s [62] E (by omega) (by decide) (by decide) hE W); unfold nxI at XC; cases hcu : cutS [62] (s.drop E) with
 | none =>
   rw [hcu] at XC hO; simp only [] at XC; have HO := Lib.hid hO; clear hcu hO; go_wp2_with (first | (go_at_call 37; (with_reducible refine (FC.out _).mono ?_); rintro e w4 ⟨rfl, hb4⟩; have hq4 := hq1.of_bl hb4; clear z0 z1 z2 z3 y0 y1 y2 y3; obtain ⟨z0, z1, z2, z3, y0, y1, y2, y3⟩ := hq4.cells; have hql4 := hq4.lt; have hq5 := hq4.set1 n; have hb5 := (hb1.trans hb4).setnew hq 1 (.string ⟨n.toArray⟩)) | (go_at_call 38; (with_reducible refine (XC.out _).mono ?_); rintro e w7 ⟨rfl, rfl⟩)); exact hK _ _ _ _ _ _ _ _ _ _ _ _ _ _ _ _ _ _ _ _ _ _ _ _ _ _ _ _ _ _ _ _ _ _ _ _ _ _ _ _ _ _ _ _ _ _ _ _ _ _ _ _ _ _ _ _ _ _ _ _ _ _ _ _ _ _ _ _ _ _ _ _ _ _ _ _ _ _ _ _ _ _ _ _ _ _ _ _ _ _ _ _ _ _ _ _ _ _ _ _ _ _ _ _ _ _ _ _ _ _ _ _ _ _ _ _ _ _ _ _ _ _ (by rw [HO.out]; rfl) hb5
 | some u =>
   have hul := cutS_fit [62] _ _ hcu; simp only [List.length_drop, List.length_cons, List.length_nil] at hul; rw [hcu] at XC hO; simp only [List.length_cons, List.length_nil] at XC; have HO := Lib.hid hO; clear hcu hO; have hx1 : (0 : Int) ≤ (s.length : Int) - (u.length : Int) - (1 : Int) := by omega
   go_wp2_with (first | (go_at_call 37; (with_reducible refine (FC.out _).mono ?_); rintro e w4 ⟨rfl, hb4⟩; have hq4 := hq1.of_bl hb4; clear z0 z1 z2 z3 y0 y1 y2 y3; obtain ⟨z0, z1, z2, z3, y0, y1, y2, y3⟩ := hq4.cells; have hql4 := hq4.lt; have hq5 := hq4.set1 n; have hb5 := (hb1.trans hb4).setnew hq 1 (.string ⟨n.toArray⟩)) | (go_at_call 38; (with_reducible refine (XC.out _).mono ?_); rintro e w7 ⟨rfl, rfl⟩)); exact hK _ _ _ _ _ _ _ _ _ _ _ _ _ _ _ _ _ _ _ _ _ _ _ _ _ _ _ _ _ _ _ _ _ _ _ _ _ _ _ _ _ _ _ _ _ _ _ _ _ _ _ _ _ _ _ _ _ _ _ _ _ _ _ _ _ _ _ _ _ _ _ _ _ _ _ _ _ _ _ _ _ _ _ _ _ _ _ _ _ _ _ _ _ _ _ _ _ _ _ _ _ _ _ _ _ _ _ _ _ _ _ _ _ _ _ _ _ _ _ _ _ _ (by rw [HO.out]; exact ⟨by omega, rfl, by show (3 : Int) ≠ 0; decide, _, hq5, AtO.nil _ _⟩) hb5
theorem cutS_sfx (p : List UInt8) : ∀ l r : List UInt8, cutS p l = some r → r <:+ l := by
 intro l; induction l with
 | nil => intro r h; simp [cutS] at h
 | cons c l ih =>
   intro r h; unfold cutS at h; split at h
   · cases h; exact List.drop_suffix _ _
   · exact (ih r h).trans (List.suffix_cons _ _)
theorem valOf_sfx (t v u : List UInt8) (h : valOf t = some (v, u)) : u <:+ t := by
 have h1 := List.dropWhile_suffix (l := t) wht; unfold valOf at h; split at h
 · simp only [Option.some.injEq, Prod.mk.injEq] at h; obtain ⟨-, rfl⟩ := h; exact List.nil_suffix
 · rename_i q r e; rw [e] at h1; split at h
   · have h2 := List.dropWhile_suffix (l := r) (· != q); split at h
     · cases h
     · rename_i x s e2; rw [e2] at h2; simp only [Option.some.injEq, Prod.mk.injEq] at h; obtain ⟨-, rfl⟩ := h; exact (((List.suffix_cons _ _).trans h2).trans (List.suffix_cons _ _)).trans h1
   · simp only [Option.some.injEq, Prod.mk.injEq] at h; obtain ⟨-, rfl⟩ := h; exact (List.dropWhile_suffix vch).trans h1
theorem oneAt_sfx (c : UInt8) (r : List UInt8) (a : Atr) (u : List UInt8) (h : oneAt c r = some (a, u)) : u <:+ r := by
 have h1 := (List.dropWhile_suffix (l := r.dropWhile nch) wht).trans (List.dropWhile_suffix (l := r) nch); unfold oneAt at h; split at h
 · simp only [Option.some.injEq, Prod.mk.injEq] at h; obtain ⟨-, rfl⟩ := h; exact List.nil_suffix
 · rename_i d s e; rw [e] at h1; split at h
   · split at h
     · cases h
     · rename_i v w e2; simp only [Option.some.injEq, Prod.mk.injEq] at h; obtain ⟨-, rfl⟩ := h; exact ((valOf_sfx _ _ _ e2).trans (List.suffix_cons _ _)).trans h1
   · simp only [Option.some.injEq, Prod.mk.injEq] at h; obtain ⟨-, rfl⟩ := h; exact h1
theorem atF_sfx (k : Nat) : ∀ (t : List UInt8) (out l : List Atr) (r : List UInt8), atF k t out = some (l, r) → r <:+ t := by
 induction k with
 | zero => intro t out l r h; simp [atF] at h
 | succ k ih =>
   intro t out l r h; have h1 := List.dropWhile_suffix (l := t) wsl; unfold atF at h; split at h
   · cases h
   · rename_i c s e; rw [e] at h1; split at h
     · simp only [Option.some.injEq, Prod.mk.injEq] at h; obtain ⟨-, rfl⟩ := h; exact (List.suffix_cons _ _).trans h1
     · split at h
       · cases h
       · rename_i a u e2; exact (((ih u _ l r h).trans (oneAt_sfx c s a u e2)).trans (List.suffix_cons _ _)).trans h1
theorem tagP_sfx (t : List UInt8) (o : Option Tok) (r : List UInt8) (h : tagP t = some (some (o, r))) : r <:+ t := by
 unfold tagP at h; split at h
 · cases h
 · rename_i c s; split at h
   · cases e : atP ((c :: s).dropWhile tch) [] with
     | none => rw [e] at h; simp at h
     | some x =>
       rw [e] at h; simp only [Option.map_some, Option.some.injEq, Prod.mk.injEq] at h; obtain ⟨-, rfl⟩ := h; exact (atF_sfx _ _ _ _ _ e).trans (List.dropWhile_suffix _)
   split at h
   · cases e : cutS [62] (s.dropWhile tch) with
     | none => rw [e] at h; simp at h
     | some x =>
       rw [e] at h; simp only [Option.map_some, Option.some.injEq, Prod.mk.injEq] at h; obtain ⟨-, rfl⟩ := h; exact ((cutS_sfx _ _ _ e).trans (List.dropWhile_suffix _)).trans (List.suffix_cons _ _)
   split at h
   · cases e : cutS [45, 45, 62] s with
     | none => rw [e] at h; simp at h
     | some x =>
       rw [e] at h; simp only [Option.map_some, Option.some.injEq, Prod.mk.injEq] at h; obtain ⟨-, rfl⟩ := h; exact (cutS_sfx _ _ _ e).trans (List.suffix_cons _ _)
   split at h
   · cases e : cutS [62] (c :: s) with
     | none => rw [e] at h; simp at h
     | some x =>
       rw [e] at h; simp only [Option.map_some, Option.some.injEq, Prod.mk.injEq] at h; obtain ⟨-, rfl⟩ := h; exact cutS_sfx _ _ _ e
   · cases h
theorem tagP_drop (s : List UInt8) (k : Nat) (o : Option Tok) (u : List UInt8) (h : tagP (s.drop (k + 1)) = some (some (o, u))) : s.drop (s.length - u.length) = u := sfx_drop ((tagP_sfx _ _ _ h).trans (List.drop_suffix _ _))
theorem tw_le (p : UInt8 → Bool) (l : List UInt8) : (l.takeWhile p).length ≤ l.length := (List.takeWhile_prefix _).length_le
theorem tagP_name (t : List UInt8) (o : Tok) (r : List UInt8) (h : tagP t = some (some (some o, r))) : o.2.1.length ≤ t.length := by
 unfold tagP at h; split at h
 · cases h
 · rename_i c s; split at h
   · cases e : atP ((c :: s).dropWhile tch) [] with
     | none => rw [e] at h; simp at h
     | some x =>
       rw [e] at h; simp only [Option.map_some, Option.some.injEq, Prod.mk.injEq] at h; obtain ⟨rfl, -⟩ := h; simp only [fold_len]; exact tw_le _ _
   split at h
   · cases e : cutS [62] (s.dropWhile tch) with
     | none => rw [e] at h; simp at h
     | some x =>
       rw [e] at h; simp only [Option.map_some, Option.some.injEq, Prod.mk.injEq] at h; obtain ⟨rfl, -⟩ := h; simp only [fold_len, List.length_cons]; exact Nat.le_succ_of_le (tw_le _ _)
   split at h
   · cases e : cutS [45, 45, 62] s with
     | none => rw [e] at h; simp at h
     | some x => rw [e] at h; simp at h
   split at h
   · cases e : cutS [62] (c :: s) with
     | none => rw [e] at h; simp at h
     | some x => rw [e] at h; simp at h
   · cases h
theorem Tkb.of_fr3 {w w' : World} {q : Nat} {k : Int} {n : List UInt8} {va : Value} {a b : Nat} {g : Option Nat} (h : Tkb w q k n va) (hF : Fr3 a b g w w') (ha : q ≠ a) (hb : q ≠ b) (hg : some q ≠ g) : Tkb w' q k n va := by
 have := h.lt; unfold Tkb at *; rw [hF.block q this ha hb hg, h]
end Go.Proofs.YtamdlihgecpbkaaGreatDoor

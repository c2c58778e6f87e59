/- Tokens: the reference: what stands behind a < in TokensOf (printed by gen_tokof.py). -/
import Derived.Test.YtoaecehkmoehjaaGreatDoorTokRg
import Derived.Test.YtoaecehkmoehjaaGreatDoorTokRj
namespace Go.Proofs.YtoaecehkmoehjaaGreatDoor
open Go.RowKit

theorem tch_yes {c : UInt8} (h : tch c = true) : wht c = false ∧ c ≠ 47 ∧ c ≠ 62 := by
  unfold tch at h
  simp only [Bool.and_eq_true, Bool.not_eq_true', decide_eq_true_eq] at h
  exact ⟨h.1.1, fun e => h.1.2 (by rw [e]; rfl), fun e => h.2 (by rw [e]; rfl)⟩
theorem tch_no {c : UInt8} (h : tch c = false) : wht c = true ∨ (wht c = false ∧ c = 47) ∨ (wht c = false ∧ c ≠ 47 ∧ c = 62) := by
  have t47 : c.toNat = 47 → c = 47 := fun e => UInt8.toNat_inj.1 e
  have t62 : c.toNat = 62 → c = 62 := fun e => UInt8.toNat_inj.1 e
  have n47 : c.toNat ≠ 47 → c ≠ 47 := fun h e => h (by rw [e]; rfl)
  unfold tch at h
  cases hw : wht c
  · rw [hw] at h
    by_cases a : c.toNat = 47
    · exact .inr (.inl ⟨rfl, t47 a⟩)
    · by_cases b : c.toNat = 62
      · exact .inr (.inr ⟨rfl, n47 a, t62 b⟩)
      · simp [a, b] at h
  · exact .inl rfl
theorem head_no {p : Prop} {c : UInt8} {r : List UInt8} (h : ltr c = false) : ¬ (p ∧ (((c :: r).head?.map ltr).getD false = true)) := by
  rintro ⟨-, h2⟩
  simp only [List.head?_cons, Option.map_some, Option.getD_some] at h2
  rw [h] at h2; cases h2
theorem isLetter_47 (W : World) : Calls Tryz.prog 25 #[.int .u8 47] W fun e w' => e = .returned (.bool false) ∧ W = w' := isLetter_c 47 W
theorem cutS_fit (p : List UInt8) : ∀ l r : List UInt8, cutS p l = some r → r.length + p.length ≤ l.length := by
  intro l
  induction l with
  | nil => intro r h; simp [cutS] at h
  | cons c l ih =>
    intro r h
    unfold cutS at h
    split at h
    · rename_i hp
      cases h
      have := (List.isPrefixOf_iff_prefix.1 hp).length_le
      simp only [List.length_drop]; omega
    · have := ih r h; simp only [List.length_cons]; omega
theorem Tkb.set0 {w : World} {q : Nat} {k : Int} {n : List UInt8} {va : Value} (h : Tkb w q k n va) (j : Int) : Tkb (w.setCell ⟨q, 0, none⟩ (.int .i64 j)) q j n va := by
  unfold Tkb at *
  simp [World.setCell, h, Array.getElem?_modify]
theorem Tkb.set1 {w : World} {q : Nat} {k : Int} {n : List UInt8} {va : Value} (h : Tkb w q k n va) (y : List UInt8) : Tkb (w.setCell ⟨q, 1, none⟩ (.string ⟨y.toArray⟩)) q k y va := by
  unfold Tkb at *
  simp [World.setCell, h, Array.getElem?_modify]
theorem AtO.setk {w : World} {base q : Nat} {v : Value} {l : List Atr} {k : Int} {n : List UInt8} {va : Value} (h : AtO w base v l) (hq : Tkb w q k n va) (u : Value) : AtO (w.setCell ⟨q, 2, none⟩ u) base v l := by
  refine World.ownsRow.kept h (gb_set (b := q) (gb_refl _ w) 2 u) ?_
  rcases h.2 with ⟨rfl, _⟩ | ⟨g, c, cur, rfl, _, hg, _⟩
  · left; rfl
  · right
    simp only [Value.ownBlock, ne_eq, Option.some.injEq]
    rintro rfl
    unfold Tkb at hq
    rw [hg] at hq
    exact absurd (Obj.cells.inj (Option.some.inj hq)).2.1 (by decide)
/-- What has been found behind a <: to, and the token in block q. -/
def TgR (W : World) (base q L : Nat) : Option (Option (Option Tok × List UInt8)) → Int → Prop
  | none, j => j = -2
  | some none, j => j = -1
  | some (some (none, u)), j => j = (L : Int) - u.length ∧ ∃ n va, Tkb W q 0 n va
  | some (some (some t, u)), j => j = (L : Int) - u.length ∧ t.2.2.2 = [] ∧ t.1 ≠ 0 ∧ ∃ va, Tkb W q t.1 t.2.1 va ∧ AtO W base va t.2.2.1
/-- The loop that passes a tag's name. -/
noncomputable def tob3 : Code := (Tryz.f11.body.bind (fb 3)).getD .skip
noncomputable def tob2 : Code := (Tryz.f11.body.bind (fb 2)).getD .skip
set_option maxRecDepth 100000 in
set_option maxHeartbeats 4000000 in
theorem tolp3 (s : List UInt8) (A E : Nat) (a : Int) (ha : a = (A : Int)) (hs : s.length ≤ 1073741824) (S0 : Scn tch s A E) (wr : World) (u1 u2 u3 u4 u5 u6 u7 u8 u9 u11 u12 u13 u14 u15 u16 u17 u18 u19 u20 u21 u22 u23 u24 u25 u26 u27 u28 u29 u30 u31 u32 u33 u34 u35 u36 u37 u38 u39 u40 u41 u42 u43 u44 u45 u46 u47 u48 u49 u50 u51 u52 u53 u54 u55 u56 u57 u58 u59 u60 u61 u62 u63 u64 u65 u66 u67 u68 u69 u70 u71 u72 u73 u74 u75 u76 u77 u78 u79 u80 u81 u82 u83 u84 u85 u86 u87 u88 u89 u90 u91 u92 u93 u94 u95 u96 u97 u98 u99 u100 u101 u102 u103 u104 u105 u106 u107 u108 u109 u110 u111 u112 u113 u114 u115 u116 u117 u118 u119 u120 u121 u122 u123 u124 u125 u126 u127 u128 u129 u130 u131 u132 u133 u134 u135 u136 u137 u138 u139 u140 u141 u142 u143 u144 u145 u146 u147 u148 u149 u150 u151 u152 u153 u154 u155 u156 u157 u158 u159 u160 u161 u162 u163 u164 u165 u166 u167 u168 u169 u170 u171 u172 u173 u174 u175 u176 u177 u178 u179 u180 u181 : Value) (K : Act → World → Prop) (Q' : Exit → Act → World → Prop)
    (hK : ∀ v70 v71 v72 v73 v74 v75 v76 v77 v78 v79 v80 v81 v82 v83 v84 v85 v86 v87 v88 v89 v90 v91 v92 v93 v94 : Value, K ⟨(List.toArray (.string ⟨s.toArray⟩ :: u1 :: u2 :: u3 :: u4 :: u5 :: u6 :: u7 :: u8 :: u9 :: .int .i64 (E : Int) :: u11 :: u12 :: u13 :: u14 :: u15 :: u16 :: u17 :: u18 :: u19 :: u20 :: u21 :: u22 :: u23 :: u24 :: u25 :: u26 :: u27 :: u28 :: u29 :: u30 :: u31 :: u32 :: u33 :: u34 :: u35 :: u36 :: u37 :: u38 :: u39 :: u40 :: u41 :: u42 :: u43 :: u44 :: u45 :: u46 :: u47 :: u48 :: u49 :: u50 :: u51 :: u52 :: u53 :: u54 :: u55 :: u56 :: u57 :: u58 :: u59 :: u60 :: u61 :: u62 :: u63 :: u64 :: u65 :: u66 :: u67 :: u68 :: u69 :: v70 :: v71 :: v72 :: v73 :: v74 :: v75 :: v76 :: v77 :: v78 :: v79 :: v80 :: v81 :: v82 :: v83 :: v84 :: v85 :: v86 :: v87 :: v88 :: v89 :: v90 :: v91 :: v92 :: v93 :: v94 :: u95 :: u96 :: u97 :: u98 :: u99 :: u100 :: u101 :: u102 :: u103 :: u104 :: u105 :: u106 :: u107 :: u108 :: u109 :: u110 :: u111 :: u112 :: u113 :: u114 :: u115 :: u116 :: u117 :: u118 :: u119 :: u120 :: u121 :: u122 :: u123 :: u124 :: u125 :: u126 :: u127 :: u128 :: u129 :: u130 :: u131 :: u132 :: u133 :: u134 :: u135 :: u136 :: u137 :: u138 :: u139 :: u140 :: u141 :: u142 :: u143 :: u144 :: u145 :: u146 :: u147 :: u148 :: u149 :: u150 :: u151 :: u152 :: u153 :: u154 :: u155 :: u156 :: u157 :: u158 :: u159 :: u160 :: u161 :: u162 :: u163 :: u164 :: u165 :: u166 :: u167 :: u168 :: u169 :: u170 :: u171 :: u172 :: u173 :: u174 :: u175 :: u176 :: u177 :: u178 :: u179 :: u180 :: u181 :: [])), []⟩ wr) :
    Code.wp Tryz.prog tob3 (Exit.then K Q') ⟨(List.toArray (.string ⟨s.toArray⟩ :: u1 :: u2 :: u3 :: u4 :: u5 :: u6 :: u7 :: u8 :: u9 :: .int .i64 a :: u11 :: u12 :: u13 :: u14 :: u15 :: u16 :: u17 :: u18 :: u19 :: u20 :: u21 :: u22 :: u23 :: u24 :: u25 :: u26 :: u27 :: u28 :: u29 :: u30 :: u31 :: u32 :: u33 :: u34 :: u35 :: u36 :: u37 :: u38 :: u39 :: u40 :: u41 :: u42 :: u43 :: u44 :: u45 :: u46 :: u47 :: u48 :: u49 :: u50 :: u51 :: u52 :: u53 :: u54 :: u55 :: u56 :: u57 :: u58 :: u59 :: u60 :: u61 :: u62 :: u63 :: u64 :: u65 :: u66 :: u67 :: u68 :: u69 :: u70 :: u71 :: u72 :: u73 :: u74 :: u75 :: u76 :: u77 :: u78 :: u79 :: u80 :: u81 :: u82 :: u83 :: u84 :: u85 :: u86 :: u87 :: u88 :: u89 :: u90 :: u91 :: u92 :: u93 :: u94 :: u95 :: u96 :: u97 :: u98 :: u99 :: u100 :: u101 :: u102 :: u103 :: u104 :: u105 :: u106 :: u107 :: u108 :: u109 :: u110 :: u111 :: u112 :: u113 :: u114 :: u115 :: u116 :: u117 :: u118 :: u119 :: u120 :: u121 :: u122 :: u123 :: u124 :: u125 :: u126 :: u127 :: u128 :: u129 :: u130 :: u131 :: u132 :: u133 :: u134 :: u135 :: u136 :: u137 :: u138 :: u139 :: u140 :: u141 :: u142 :: u143 :: u144 :: u145 :: u146 :: u147 :: u148 :: u149 :: u150 :: u151 :: u152 :: u153 :: u154 :: u155 :: u156 :: u157 :: u158 :: u159 :: u160 :: u161 :: u162 :: u163 :: u164 :: u165 :: u166 :: u167 :: u168 :: u169 :: u170 :: u171 :: u172 :: u173 :: u174 :: u175 :: u176 :: u177 :: u178 :: u179 :: u180 :: u181 :: [])), []⟩ wr := by
  have S := Lib.hid S0
  have hE := S0.ub
  have hA := S0.le
  clear S0
  subst ha
  conv => arg 2; whnf
  go_wp2_with fail
  go_loopw [10] (fun i wq => ∃ k : Nat, A ≤ k ∧ k ≤ E ∧ i = .int .i64 (k : Int) ∧ wr = wq) (fun i _ => s.length - (intOf i).toNat)
  case atStart => exact ⟨A, Nat.le_refl _, hA, rfl, rfl⟩
  case round =>
    obtain ⟨k, hk1, hk2, rfl, rfl⟩ := hrel
    by_cases hlt : k < E
    · have hk3 : k < s.length := by omega
      rcases tch_yes (S.out.inn k hk3 hk1 hlt) with ⟨y, z1, z2⟩
      · obtain ⟨f47, g47⟩ : ((s[k].toNat : Int) == 47) = false ∧ ((s[k].toNat : Int) != 47) = true := c_ne s[k] 47 (by decide) z1
        obtain ⟨f62, g62⟩ : ((s[k].toNat : Int) == 62) = false ∧ ((s[k].toNat : Int) != 62) = true := c_ne s[k] 62 (by decide) z2
        have WC := Lib.hid (fun W => isWhite_c s[k] W)
        rw [y] at WC
        clear y
        go_wp2_with (go_at_call 27; (with_reducible refine (WC.out _).mono ?_); rintro e w7 ⟨rfl, rfl⟩)
        go_roundw
        case rel => exact ⟨k + 1, by omega, by omega, by go_num, by trivial⟩
        case measure => simp [intOf]; omega
    · obtain rfl : k = E := by omega
      clear hlt
      by_cases hk3 : k < s.length
      · rcases tch_no (S.out.out hk3) with y | ⟨y, z⟩ | ⟨y, z1, z⟩
        · have WC := Lib.hid (fun W => isWhite_c s[k] W)
          rw [y] at WC
          clear y
          go_wp2_with (go_at_call 27; (with_reducible refine (WC.out _).mono ?_); rintro e w7 ⟨rfl, rfl⟩)
          exact hK _ _ _ _ _ _ _ _ _ _ _ _ _ _ _ _ _ _ _ _ _ _ _ _ _
        · obtain ⟨f47, g47⟩ : ((s[k].toNat : Int) == 47) = true ∧ ((s[k].toNat : Int) != 47) = false := c_eq s[k] 47 (by decide) z
          have WC := Lib.hid (fun W => isWhite_47 W)
          clear y
          go_wp2_with (go_at_call 27; (with_reducible refine (WC.out _).mono ?_); rintro e w7 ⟨rfl, rfl⟩)
          exact hK _ _ _ _ _ _ _ _ _ _ _ _ _ _ _ _ _ _ _ _ _ _ _ _ _
        · obtain ⟨f62, g62⟩ : ((s[k].toNat : Int) == 62) = true ∧ ((s[k].toNat : Int) != 62) = false := c_eq s[k] 62 (by decide) z
          obtain ⟨f47, g47⟩ : ((s[k].toNat : Int) == 47) = false ∧ ((s[k].toNat : Int) != 47) = true := c_ne s[k] 47 (by decide) z1
          have WC := Lib.hid (fun W => isWhite_62 W)
          clear y
          go_wp2_with (go_at_call 27; (with_reducible refine (WC.out _).mono ?_); rintro e w7 ⟨rfl, rfl⟩)
          exact hK _ _ _ _ _ _ _ _ _ _ _ _ _ _ _ _ _ _ _ _ _ _ _ _ _
      · go_wp2
        exact hK _ _ _ _ _ _ _ _ _ _ _ _ _ _ _ _ _ _ _ _ _ _ _ _ _
set_option maxRecDepth 100000 in
set_option maxHeartbeats 4000000 in
theorem sw_end (s : List UInt8) (k q : Nat) (hs : s.length ≤ 1073741824) (hlt : k < s.length) (hc : s[k] = 60) (h1 : ¬ k + 1 < s.length) (w wr : World) (hq0 : Tkb wr q 0 [] (.slice none 0 0)) (hb0 : Bl w wr) (_hq : w.heap.size ≤ q) (u1 u2 u3 u4 u5 u9 u10 u11 u12 u13 u14 u15 u16 u17 u18 u19 u20 u21 u22 u23 u24 u25 u26 u27 u28 u29 u30 u31 u32 u33 u34 u35 u36 u37 u38 u39 u40 u41 u42 u43 u44 u45 u46 u47 u48 u49 u50 u51 u52 u53 u54 u55 u56 u57 u58 u59 u60 u61 u62 u63 u64 u65 u66 u67 u68 u69 u70 u71 u72 u73 u74 u75 u76 u77 u78 u79 u80 u81 u82 u83 u84 u85 u86 u87 u88 u89 u90 u91 u92 u93 u94 u95 u96 u97 u98 u99 u100 u101 u102 u103 u104 u105 u106 u107 u108 u109 u110 u111 u112 u113 u114 u115 u116 u117 u118 u119 u120 u121 u122 u123 u124 u125 u126 u127 u128 u129 u130 u131 u132 u133 u134 u135 u136 u137 u138 u139 u140 u141 u142 u143 u144 u145 u146 u147 u148 u149 u150 u151 u152 u153 u154 u155 u156 u157 u158 u159 u160 u161 u162 u163 u164 u165 u166 u167 u168 u169 u170 u171 u172 u173 u174 u175 u176 u177 u178 u179 u180 u181 : Value) (K : Act → World → Prop) (Q' : Exit → Act → World → Prop)
    (hK : ∀ (v9 v10 v29 v30 v31 v32 v33 v34 v35 v36 v37 v38 v39 v40 v41 v42 v43 v44 v45 v46 v47 v48 v49 v50 v51 v52 v53 v54 v55 v56 v57 v58 v59 v60 v61 v62 v63 v64 v65 v66 v67 v68 v69 v70 v71 v72 v73 v74 v75 v76 v77 v78 v79 v80 v81 v82 v83 v84 v85 v86 v87 v88 v89 v90 v91 v92 v93 v94 v95 v96 v97 v98 v99 v100 v101 v102 v103 v104 v105 v106 v107 v108 v109 v110 v111 v112 v113 v114 v115 v116 v117 v118 v119 v120 v121 v122 v123 v124 v125 v126 v127 v128 v129 v130 v131 v132 v133 v134 v135 v136 v137 v138 v139 v140 v141 v142 v143 v144 v145 v146 : Value) (jt : Int) (W : World), TgR W w.heap.size q s.length (tagP (s.drop (k + 1))) jt → Bl w W → K ⟨(List.toArray (.string ⟨s.toArray⟩ :: u1 :: u2 :: u3 :: u4 :: u5 :: .int .i64 (k : Int) :: .int .i64 jt :: .pointer (some ⟨q, 0, none⟩) :: v9 :: v10 :: u11 :: u12 :: u13 :: u14 :: u15 :: u16 :: u17 :: u18 :: u19 :: u20 :: u21 :: u22 :: u23 :: u24 :: u25 :: u26 :: u27 :: u28 :: v29 :: v30 :: v31 :: v32 :: v33 :: v34 :: v35 :: v36 :: v37 :: v38 :: v39 :: v40 :: v41 :: v42 :: v43 :: v44 :: v45 :: v46 :: v47 :: v48 :: v49 :: v50 :: v51 :: v52 :: v53 :: v54 :: v55 :: v56 :: v57 :: v58 :: v59 :: v60 :: v61 :: v62 :: v63 :: v64 :: v65 :: v66 :: v67 :: v68 :: v69 :: v70 :: v71 :: v72 :: v73 :: v74 :: v75 :: v76 :: v77 :: v78 :: v79 :: v80 :: v81 :: v82 :: v83 :: v84 :: v85 :: v86 :: v87 :: v88 :: v89 :: v90 :: v91 :: v92 :: v93 :: v94 :: v95 :: v96 :: v97 :: v98 :: v99 :: v100 :: v101 :: v102 :: v103 :: v104 :: v105 :: v106 :: v107 :: v108 :: v109 :: v110 :: v111 :: v112 :: v113 :: v114 :: v115 :: v116 :: v117 :: v118 :: v119 :: v120 :: v121 :: v122 :: v123 :: v124 :: v125 :: v126 :: v127 :: v128 :: v129 :: v130 :: v131 :: v132 :: v133 :: v134 :: v135 :: v136 :: v137 :: v138 :: v139 :: v140 :: v141 :: v142 :: v143 :: v144 :: v145 :: v146 :: u147 :: u148 :: u149 :: u150 :: u151 :: u152 :: u153 :: u154 :: u155 :: u156 :: u157 :: u158 :: u159 :: u160 :: u161 :: u162 :: u163 :: u164 :: u165 :: u166 :: u167 :: u168 :: u169 :: u170 :: u171 :: u172 :: u173 :: u174 :: u175 :: u176 :: u177 :: u178 :: u179 :: u180 :: u181 :: [])), []⟩ W) :
    Code.wp Tryz.prog tob2 (Exit.then K Q') ⟨(List.toArray (.string ⟨s.toArray⟩ :: u1 :: u2 :: u3 :: u4 :: u5 :: .int .i64 (k : Int) :: .int .i64 (-2) :: .pointer (some ⟨q, 0, none⟩) :: u9 :: u10 :: u11 :: u12 :: u13 :: u14 :: u15 :: u16 :: u17 :: u18 :: u19 :: u20 :: u21 :: u22 :: u23 :: u24 :: u25 :: u26 :: u27 :: u28 :: u29 :: u30 :: u31 :: u32 :: u33 :: u34 :: u35 :: u36 :: u37 :: u38 :: u39 :: u40 :: u41 :: u42 :: u43 :: u44 :: u45 :: u46 :: u47 :: u48 :: u49 :: u50 :: u51 :: u52 :: u53 :: u54 :: u55 :: u56 :: u57 :: u58 :: u59 :: u60 :: u61 :: u62 :: u63 :: u64 :: u65 :: u66 :: u67 :: u68 :: u69 :: u70 :: u71 :: u72 :: u73 :: u74 :: u75 :: u76 :: u77 :: u78 :: u79 :: u80 :: u81 :: u82 :: u83 :: u84 :: u85 :: u86 :: u87 :: u88 :: u89 :: u90 :: u91 :: u92 :: u93 :: u94 :: u95 :: u96 :: u97 :: u98 :: u99 :: u100 :: u101 :: u102 :: u103 :: u104 :: u105 :: u106 :: u107 :: u108 :: u109 :: u110 :: u111 :: u112 :: u113 :: u114 :: u115 :: u116 :: u117 :: u118 :: u119 :: u120 :: u121 :: u122 :: u123 :: u124 :: u125 :: u126 :: u127 :: u128 :: u129 :: u130 :: u131 :: u132 :: u133 :: u134 :: u135 :: u136 :: u137 :: u138 :: u139 :: u140 :: u141 :: u142 :: u143 :: u144 :: u145 :: u146 :: u147 :: u148 :: u149 :: u150 :: u151 :: u152 :: u153 :: u154 :: u155 :: u156 :: u157 :: u158 :: u159 :: u160 :: u161 :: u162 :: u163 :: u164 :: u165 :: u166 :: u167 :: u168 :: u169 :: u170 :: u171 :: u172 :: u173 :: u174 :: u175 :: u176 :: u177 :: u178 :: u179 :: u180 :: u181 :: [])), []⟩ wr := by
  have HD : s.drop k = s[k] :: s.drop (k + 1) := List.drop_eq_getElem_cons hlt
  have hlt2 : (k : Int) + 1 ≤ (s.length : Int) := by omega
  obtain ⟨z0, z1, z2, z3, y0, y1, y2, y3⟩ := hq0.cells
  have hql := hq0.lt
  conv => arg 2; whnf
  have hr : s.drop (k + 1) = [] := List.drop_eq_nil_of_le (by omega)
  have S1 := Lib.hid (fun W => startsAt_c s [60, 47] k (by omega) (by decide) (by omega) W)
  rw [HD, show pre [60, 47] (s[k] :: s.drop (k + 1)) = false by rw [hc, pre_one]; rw [hr]; rfl] at S1
  have S2 := Lib.hid (fun W => startsAt_c s [60, 33, 45, 45] k (by omega) (by decide) (by omega) W)
  rw [HD, show pre [60, 33, 45, 45] (s[k] :: s.drop (k + 1)) = false by rw [hc, pre_one]; rw [hr]; rfl] at S2
  have S3 := Lib.hid (fun W => startsAt_c s [60, 33] k (by omega) (by decide) (by omega) W)
  rw [HD, show pre [60, 33] (s[k] :: s.drop (k + 1)) = false by rw [hc, pre_one]; rw [hr]; rfl] at S3
  have S4 := Lib.hid (fun W => startsAt_c s [60, 63] k (by omega) (by decide) (by omega) W)
  rw [HD, show pre [60, 63] (s[k] :: s.drop (k + 1)) = false by rw [hc, pre_one]; rw [hr]; rfl] at S4
  have HO := Lib.hid (show tagP (s.drop (k + 1)) = none by rw [hr]; rfl)
  clear hr HD hc
  go_wp2_with (first | (go_at_call 26; (with_reducible refine (S1.out _).mono ?_); rintro e w7 ⟨rfl, rfl⟩) | (go_at_call 26; (with_reducible refine (S2.out _).mono ?_); rintro e w7 ⟨rfl, rfl⟩) | (go_at_call 26; (with_reducible refine (S3.out _).mono ?_); rintro e w7 ⟨rfl, rfl⟩) | (go_at_call 26; (with_reducible refine (S4.out _).mono ?_); rintro e w7 ⟨rfl, rfl⟩))
  exact hK _ _ _ _ _ _ _ _ _ _ _ _ _ _ _ _ _ _ _ _ _ _ _ _ _ _ _ _ _ _ _ _ _ _ _ _ _ _ _ _ _ _ _ _ _ _ _ _ _ _ _ _ _ _ _ _ _ _ _ _ _ _ _ _ _ _ _ _ _ _ _ _ _ _ _ _ _ _ _ _ _ _ _ _ _ _ _ _ _ _ _ _ _ _ _ _ _ _ _ _ _ _ _ _ _ _ _ _ _ _ _ _ _ _ _ _ _ _ _ _ _ _ (by rw [HO.out]; rfl) hb0
set_option maxRecDepth 100000 in
set_option maxHeartbeats 4000000 in
theorem sw_none (s : List UInt8) (k q : Nat) (hs : s.length ≤ 1073741824) (hlt : k < s.length) (hc : s[k] = 60) (h1 : k + 1 < s.length) (hL : ltr s[k + 1] = false) (h47 : s[k + 1] ≠ 47) (h33 : s[k + 1] ≠ 33) (h63 : s[k + 1] ≠ 63) (w wr : World) (hq0 : Tkb wr q 0 [] (.slice none 0 0)) (hb0 : Bl w wr) (_hq : w.heap.size ≤ q) (u1 u2 u3 u4 u5 u9 u10 u11 u12 u13 u14 u15 u16 u17 u18 u19 u20 u21 u22 u23 u24 u25 u26 u27 u28 u29 u30 u31 u32 u33 u34 u35 u36 u37 u38 u39 u40 u41 u42 u43 u44 u45 u46 u47 u48 u49 u50 u51 u52 u53 u54 u55 u56 u57 u58 u59 u60 u61 u62 u63 u64 u65 u66 u67 u68 u69 u70 u71 u72 u73 u74 u75 u76 u77 u78 u79 u80 u81 u82 u83 u84 u85 u86 u87 u88 u89 u90 u91 u92 u93 u94 u95 u96 u97 u98 u99 u100 u101 u102 u103 u104 u105 u106 u107 u108 u109 u110 u111 u112 u113 u114 u115 u116 u117 u118 u119 u120 u121 u122 u123 u124 u125 u126 u127 u128 u129 u130 u131 u132 u133 u134 u135 u136 u137 u138 u139 u140 u141 u142 u143 u144 u145 u146 u147 u148 u149 u150 u151 u152 u153 u154 u155 u156 u157 u158 u159 u160 u161 u162 u163 u164 u165 u166 u167 u168 u169 u170 u171 u172 u173 u174 u175 u176 u177 u178 u179 u180 u181 : Value) (K : Act → World → Prop) (Q' : Exit → Act → World → Prop)
    (hK : ∀ (v9 v10 v29 v30 v31 v32 v33 v34 v35 v36 v37 v38 v39 v40 v41 v42 v43 v44 v45 v46 v47 v48 v49 v50 v51 v52 v53 v54 v55 v56 v57 v58 v59 v60 v61 v62 v63 v64 v65 v66 v67 v68 v69 v70 v71 v72 v73 v74 v75 v76 v77 v78 v79 v80 v81 v82 v83 v84 v85 v86 v87 v88 v89 v90 v91 v92 v93 v94 v95 v96 v97 v98 v99 v100 v101 v102 v103 v104 v105 v106 v107 v108 v109 v110 v111 v112 v113 v114 v115 v116 v117 v118 v119 v120 v121 v122 v123 v124 v125 v126 v127 v128 v129 v130 v131 v132 v133 v134 v135 v136 v137 v138 v139 v140 v141 v142 v143 v144 v145 v146 : Value) (jt : Int) (W : World), TgR W w.heap.size q s.length (tagP (s.drop (k + 1))) jt → Bl w W → K ⟨(List.toArray (.string ⟨s.toArray⟩ :: u1 :: u2 :: u3 :: u4 :: u5 :: .int .i64 (k : Int) :: .int .i64 jt :: .pointer (some ⟨q, 0, none⟩) :: v9 :: v10 :: u11 :: u12 :: u13 :: u14 :: u15 :: u16 :: u17 :: u18 :: u19 :: u20 :: u21 :: u22 :: u23 :: u24 :: u25 :: u26 :: u27 :: u28 :: v29 :: v30 :: v31 :: v32 :: v33 :: v34 :: v35 :: v36 :: v37 :: v38 :: v39 :: v40 :: v41 :: v42 :: v43 :: v44 :: v45 :: v46 :: v47 :: v48 :: v49 :: v50 :: v51 :: v52 :: v53 :: v54 :: v55 :: v56 :: v57 :: v58 :: v59 :: v60 :: v61 :: v62 :: v63 :: v64 :: v65 :: v66 :: v67 :: v68 :: v69 :: v70 :: v71 :: v72 :: v73 :: v74 :: v75 :: v76 :: v77 :: v78 :: v79 :: v80 :: v81 :: v82 :: v83 :: v84 :: v85 :: v86 :: v87 :: v88 :: v89 :: v90 :: v91 :: v92 :: v93 :: v94 :: v95 :: v96 :: v97 :: v98 :: v99 :: v100 :: v101 :: v102 :: v103 :: v104 :: v105 :: v106 :: v107 :: v108 :: v109 :: v110 :: v111 :: v112 :: v113 :: v114 :: v115 :: v116 :: v117 :: v118 :: v119 :: v120 :: v121 :: v122 :: v123 :: v124 :: v125 :: v126 :: v127 :: v128 :: v129 :: v130 :: v131 :: v132 :: v133 :: v134 :: v135 :: v136 :: v137 :: v138 :: v139 :: v140 :: v141 :: v142 :: v143 :: v144 :: v145 :: v146 :: u147 :: u148 :: u149 :: u150 :: u151 :: u152 :: u153 :: u154 :: u155 :: u156 :: u157 :: u158 :: u159 :: u160 :: u161 :: u162 :: u163 :: u164 :: u165 :: u166 :: u167 :: u168 :: u169 :: u170 :: u171 :: u172 :: u173 :: u174 :: u175 :: u176 :: u177 :: u178 :: u179 :: u180 :: u181 :: [])), []⟩ W) :
    Code.wp Tryz.prog tob2 (Exit.then K Q') ⟨(List.toArray (.string ⟨s.toArray⟩ :: u1 :: u2 :: u3 :: u4 :: u5 :: .int .i64 (k : Int) :: .int .i64 (-2) :: .pointer (some ⟨q, 0, none⟩) :: u9 :: u10 :: u11 :: u12 :: u13 :: u14 :: u15 :: u16 :: u17 :: u18 :: u19 :: u20 :: u21 :: u22 :: u23 :: u24 :: u25 :: u26 :: u27 :: u28 :: u29 :: u30 :: u31 :: u32 :: u33 :: u34 :: u35 :: u36 :: u37 :: u38 :: u39 :: u40 :: u41 :: u42 :: u43 :: u44 :: u45 :: u46 :: u47 :: u48 :: u49 :: u50 :: u51 :: u52 :: u53 :: u54 :: u55 :: u56 :: u57 :: u58 :: u59 :: u60 :: u61 :: u62 :: u63 :: u64 :: u65 :: u66 :: u67 :: u68 :: u69 :: u70 :: u71 :: u72 :: u73 :: u74 :: u75 :: u76 :: u77 :: u78 :: u79 :: u80 :: u81 :: u82 :: u83 :: u84 :: u85 :: u86 :: u87 :: u88 :: u89 :: u90 :: u91 :: u92 :: u93 :: u94 :: u95 :: u96 :: u97 :: u98 :: u99 :: u100 :: u101 :: u102 :: u103 :: u104 :: u105 :: u106 :: u107 :: u108 :: u109 :: u110 :: u111 :: u112 :: u113 :: u114 :: u115 :: u116 :: u117 :: u118 :: u119 :: u120 :: u121 :: u122 :: u123 :: u124 :: u125 :: u126 :: u127 :: u128 :: u129 :: u130 :: u131 :: u132 :: u133 :: u134 :: u135 :: u136 :: u137 :: u138 :: u139 :: u140 :: u141 :: u142 :: u143 :: u144 :: u145 :: u146 :: u147 :: u148 :: u149 :: u150 :: u151 :: u152 :: u153 :: u154 :: u155 :: u156 :: u157 :: u158 :: u159 :: u160 :: u161 :: u162 :: u163 :: u164 :: u165 :: u166 :: u167 :: u168 :: u169 :: u170 :: u171 :: u172 :: u173 :: u174 :: u175 :: u176 :: u177 :: u178 :: u179 :: u180 :: u181 :: [])), []⟩ wr := by
  have HD : s.drop k = s[k] :: s.drop (k + 1) := List.drop_eq_getElem_cons hlt
  have hlt2 : (k : Int) + 1 ≤ (s.length : Int) := by omega
  obtain ⟨z0, z1, z2, z3, y0, y1, y2, y3⟩ := hq0.cells
  have hql := hq0.lt
  conv => arg 2; whnf
  have hr : s.drop (k + 1) = s[k + 1] :: s.drop (k + 2) := List.drop_eq_getElem_cons h1
  have h1i : (k : Int) + 1 < (s.length : Int) := by omega
  have LC := Lib.hid (fun W => isLetter_c s[k + 1] W)
  rw [hL] at LC
  have S1 := Lib.hid (fun W => startsAt_c s [60, 47] k (by omega) (by decide) (by omega) W)
  rw [HD, show pre [60, 47] (s[k] :: s.drop (k + 1)) = false by rw [hc, pre_one]; rw [hr]; exact pre_ne _ _ h47] at S1
  have S2 := Lib.hid (fun W => startsAt_c s [60, 33, 45, 45] k (by omega) (by decide) (by omega) W)
  rw [HD, show pre [60, 33, 45, 45] (s[k] :: s.drop (k + 1)) = false by rw [hc, pre_one]; rw [hr]; exact pre_ne _ _ h33] at S2
  have S3 := Lib.hid (fun W => startsAt_c s [60, 33] k (by omega) (by decide) (by omega) W)
  rw [HD, show pre [60, 33] (s[k] :: s.drop (k + 1)) = false by rw [hc, pre_one]; rw [hr]; exact pre_ne _ _ h33] at S3
  have S4 := Lib.hid (fun W => startsAt_c s [60, 63] k (by omega) (by decide) (by omega) W)
  rw [HD, show pre [60, 63] (s[k] :: s.drop (k + 1)) = false by rw [hc, pre_one]; rw [hr]; exact pre_ne _ _ h63] at S4
  have HO := Lib.hid (show tagP (s.drop (k + 1)) = none by rw [hr, tagP_cons, if_neg (by rw [hL]; decide), if_neg (fun h => h47 h.1), if_neg (by rw [pre_ne _ _ h33]; decide), if_neg (fun h => h.elim h33 (fun h => h.elim h63 h47))])
  clear hr HD hc
  go_wp2_with (first | (go_at_call 25; (with_reducible refine (LC.out _).mono ?_); rintro e w7 ⟨rfl, rfl⟩) | (go_at_call 26; (with_reducible refine (S1.out _).mono ?_); rintro e w7 ⟨rfl, rfl⟩) | (go_at_call 26; (with_reducible refine (S2.out _).mono ?_); rintro e w7 ⟨rfl, rfl⟩) | (go_at_call 26; (with_reducible refine (S3.out _).mono ?_); rintro e w7 ⟨rfl, rfl⟩) | (go_at_call 26; (with_reducible refine (S4.out _).mono ?_); rintro e w7 ⟨rfl, rfl⟩))
  exact hK _ _ _ _ _ _ _ _ _ _ _ _ _ _ _ _ _ _ _ _ _ _ _ _ _ _ _ _ _ _ _ _ _ _ _ _ _ _ _ _ _ _ _ _ _ _ _ _ _ _ _ _ _ _ _ _ _ _ _ _ _ _ _ _ _ _ _ _ _ _ _ _ _ _ _ _ _ _ _ _ _ _ _ _ _ _ _ _ _ _ _ _ _ _ _ _ _ _ _ _ _ _ _ _ _ _ _ _ _ _ _ _ _ _ _ _ _ _ _ _ _ _ (by rw [HO.out]; rfl) hb0
set_option maxRecDepth 100000 in
set_option maxHeartbeats 4000000 in
theorem sw_47a (s : List UInt8) (k q : Nat) (hs : s.length ≤ 1073741824) (hlt : k < s.length) (hc : s[k] = 60) (h1 : k + 1 < s.length) (hL : ltr s[k + 1] = false) (h47 : s[k + 1] = 47) (h2 : k + 2 < s.length) (hM : ltr s[k + 2] = false) (w wr : World) (hq0 : Tkb wr q 0 [] (.slice none 0 0)) (hb0 : Bl w wr) (_hq : w.heap.size ≤ q) (u1 u2 u3 u4 u5 u9 u10 u11 u12 u13 u14 u15 u16 u17 u18 u19 u20 u21 u22 u23 u24 u25 u26 u27 u28 u29 u30 u31 u32 u33 u34 u35 u36 u37 u38 u39 u40 u41 u42 u43 u44 u45 u46 u47 u48 u49 u50 u51 u52 u53 u54 u55 u56 u57 u58 u59 u60 u61 u62 u63 u64 u65 u66 u67 u68 u69 u70 u71 u72 u73 u74 u75 u76 u77 u78 u79 u80 u81 u82 u83 u84 u85 u86 u87 u88 u89 u90 u91 u92 u93 u94 u95 u96 u97 u98 u99 u100 u101 u102 u103 u104 u105 u106 u107 u108 u109 u110 u111 u112 u113 u114 u115 u116 u117 u118 u119 u120 u121 u122 u123 u124 u125 u126 u127 u128 u129 u130 u131 u132 u133 u134 u135 u136 u137 u138 u139 u140 u141 u142 u143 u144 u145 u146 u147 u148 u149 u150 u151 u152 u153 u154 u155 u156 u157 u158 u159 u160 u161 u162 u163 u164 u165 u166 u167 u168 u169 u170 u171 u172 u173 u174 u175 u176 u177 u178 u179 u180 u181 : Value) (K : Act → World → Prop) (Q' : Exit → Act → World → Prop)
    (hK : ∀ (v9 v10 v29 v30 v31 v32 v33 v34 v35 v36 v37 v38 v39 v40 v41 v42 v43 v44 v45 v46 v47 v48 v49 v50 v51 v52 v53 v54 v55 v56 v57 v58 v59 v60 v61 v62 v63 v64 v65 v66 v67 v68 v69 v70 v71 v72 v73 v74 v75 v76 v77 v78 v79 v80 v81 v82 v83 v84 v85 v86 v87 v88 v89 v90 v91 v92 v93 v94 v95 v96 v97 v98 v99 v100 v101 v102 v103 v104 v105 v106 v107 v108 v109 v110 v111 v112 v113 v114 v115 v116 v117 v118 v119 v120 v121 v122 v123 v124 v125 v126 v127 v128 v129 v130 v131 v132 v133 v134 v135 v136 v137 v138 v139 v140 v141 v142 v143 v144 v145 v146 : Value) (jt : Int) (W : World), TgR W w.heap.size q s.length (tagP (s.drop (k + 1))) jt → Bl w W → K ⟨(List.toArray (.string ⟨s.toArray⟩ :: u1 :: u2 :: u3 :: u4 :: u5 :: .int .i64 (k : Int) :: .int .i64 jt :: .pointer (some ⟨q, 0, none⟩) :: v9 :: v10 :: u11 :: u12 :: u13 :: u14 :: u15 :: u16 :: u17 :: u18 :: u19 :: u20 :: u21 :: u22 :: u23 :: u24 :: u25 :: u26 :: u27 :: u28 :: v29 :: v30 :: v31 :: v32 :: v33 :: v34 :: v35 :: v36 :: v37 :: v38 :: v39 :: v40 :: v41 :: v42 :: v43 :: v44 :: v45 :: v46 :: v47 :: v48 :: v49 :: v50 :: v51 :: v52 :: v53 :: v54 :: v55 :: v56 :: v57 :: v58 :: v59 :: v60 :: v61 :: v62 :: v63 :: v64 :: v65 :: v66 :: v67 :: v68 :: v69 :: v70 :: v71 :: v72 :: v73 :: v74 :: v75 :: v76 :: v77 :: v78 :: v79 :: v80 :: v81 :: v82 :: v83 :: v84 :: v85 :: v86 :: v87 :: v88 :: v89 :: v90 :: v91 :: v92 :: v93 :: v94 :: v95 :: v96 :: v97 :: v98 :: v99 :: v100 :: v101 :: v102 :: v103 :: v104 :: v105 :: v106 :: v107 :: v108 :: v109 :: v110 :: v111 :: v112 :: v113 :: v114 :: v115 :: v116 :: v117 :: v118 :: v119 :: v120 :: v121 :: v122 :: v123 :: v124 :: v125 :: v126 :: v127 :: v128 :: v129 :: v130 :: v131 :: v132 :: v133 :: v134 :: v135 :: v136 :: v137 :: v138 :: v139 :: v140 :: v141 :: v142 :: v143 :: v144 :: v145 :: v146 :: u147 :: u148 :: u149 :: u150 :: u151 :: u152 :: u153 :: u154 :: u155 :: u156 :: u157 :: u158 :: u159 :: u160 :: u161 :: u162 :: u163 :: u164 :: u165 :: u166 :: u167 :: u168 :: u169 :: u170 :: u171 :: u172 :: u173 :: u174 :: u175 :: u176 :: u177 :: u178 :: u179 :: u180 :: u181 :: [])), []⟩ W) :
    Code.wp Tryz.prog tob2 (Exit.then K Q') ⟨(List.toArray (.string ⟨s.toArray⟩ :: u1 :: u2 :: u3 :: u4 :: u5 :: .int .i64 (k : Int) :: .int .i64 (-2) :: .pointer (some ⟨q, 0, none⟩) :: u9 :: u10 :: u11 :: u12 :: u13 :: u14 :: u15 :: u16 :: u17 :: u18 :: u19 :: u20 :: u21 :: u22 :: u23 :: u24 :: u25 :: u26 :: u27 :: u28 :: u29 :: u30 :: u31 :: u32 :: u33 :: u34 :: u35 :: u36 :: u37 :: u38 :: u39 :: u40 :: u41 :: u42 :: u43 :: u44 :: u45 :: u46 :: u47 :: u48 :: u49 :: u50 :: u51 :: u52 :: u53 :: u54 :: u55 :: u56 :: u57 :: u58 :: u59 :: u60 :: u61 :: u62 :: u63 :: u64 :: u65 :: u66 :: u67 :: u68 :: u69 :: u70 :: u71 :: u72 :: u73 :: u74 :: u75 :: u76 :: u77 :: u78 :: u79 :: u80 :: u81 :: u82 :: u83 :: u84 :: u85 :: u86 :: u87 :: u88 :: u89 :: u90 :: u91 :: u92 :: u93 :: u94 :: u95 :: u96 :: u97 :: u98 :: u99 :: u100 :: u101 :: u102 :: u103 :: u104 :: u105 :: u106 :: u107 :: u108 :: u109 :: u110 :: u111 :: u112 :: u113 :: u114 :: u115 :: u116 :: u117 :: u118 :: u119 :: u120 :: u121 :: u122 :: u123 :: u124 :: u125 :: u126 :: u127 :: u128 :: u129 :: u130 :: u131 :: u132 :: u133 :: u134 :: u135 :: u136 :: u137 :: u138 :: u139 :: u140 :: u141 :: u142 :: u143 :: u144 :: u145 :: u146 :: u147 :: u148 :: u149 :: u150 :: u151 :: u152 :: u153 :: u154 :: u155 :: u156 :: u157 :: u158 :: u159 :: u160 :: u161 :: u162 :: u163 :: u164 :: u165 :: u166 :: u167 :: u168 :: u169 :: u170 :: u171 :: u172 :: u173 :: u174 :: u175 :: u176 :: u177 :: u178 :: u179 :: u180 :: u181 :: [])), []⟩ wr := by
  have HD : s.drop k = s[k] :: s.drop (k + 1) := List.drop_eq_getElem_cons hlt
  have hlt2 : (k : Int) + 1 ≤ (s.length : Int) := by omega
  obtain ⟨z0, z1, z2, z3, y0, y1, y2, y3⟩ := hq0.cells
  have hql := hq0.lt
  conv => arg 2; whnf
  have hr : s.drop (k + 1) = s[k + 1] :: s.drop (k + 2) := List.drop_eq_getElem_cons h1
  have h1i : (k : Int) + 1 < (s.length : Int) := by omega
  have LC := Lib.hid (fun W => isLetter_c s[k + 1] W)
  rw [hL] at LC
  have HD2 := HD
  have LD := Lib.hid (fun W => isLetter_c s[k + 2] W)
  rw [hM] at LD
  have h2i : (k : Int) + 2 < (s.length : Int) := by omega
  have S1 := Lib.hid (fun W => startsAt_c s [60, 47] k (by omega) (by decide) (by omega) W)
  rw [HD, show pre [60, 47] (s[k] :: s.drop (k + 1)) = true by rw [hc, pre_one]; rw [hr, h47, pre_one]; rfl] at S1
  have S2 := Lib.hid (fun W => startsAt_c s [60, 33, 45, 45] k (by omega) (by decide) (by omega) W)
  rw [HD, show pre [60, 33, 45, 45] (s[k] :: s.drop (k + 1)) = false by rw [hc, pre_one]; rw [hr, h47]; exact pre_ne _ _ (by decide)] at S2
  have S3 := Lib.hid (fun W => startsAt_c s [60, 33] k (by omega) (by decide) (by omega) W)
  rw [HD, show pre [60, 33] (s[k] :: s.drop (k + 1)) = false by rw [hc, pre_one]; rw [hr, h47]; exact pre_ne _ _ (by decide)] at S3
  have S4 := Lib.hid (fun W => startsAt_c s [60, 63] k (by omega) (by decide) (by omega) W)
  rw [HD, show pre [60, 63] (s[k] :: s.drop (k + 1)) = false by rw [hc, pre_one]; rw [hr, h47]; exact pre_ne _ _ (by decide)] at S4
  clear HD
  have XC := Lib.hid (fun W => nextOf_c s [62] k (by omega) (by decide) (by decide) (by omega) W)
  unfold nxI at XC
  have hO : tagP (s.drop (k + 1)) = some ((cutS [62] (s.drop k)).map fun x => (none, x)) := by
    rw [HD2, hc, cutS_skip 62 60 _ (by decide), hr, tagP_cons, if_neg (by rw [hL]; decide), if_neg (by rw [List.drop_eq_getElem_cons h2]; exact head_no hM), if_neg (by rw [h47, pre_ne _ _ (by decide)]; decide), if_pos (.inr (.inr h47))]
  try clear hc
  try clear h47
  try clear h33
  try clear h63
  cases hcu : cutS [62] (s.drop k) with
  | none =>
    rw [hcu] at XC hO
    simp only [] at XC
    have HO := Lib.hid hO
    clear hcu hO
    go_wp2_with (first | (go_at_call 25; (with_reducible refine (LC.out _).mono ?_); rintro e w7 ⟨rfl, rfl⟩) | (go_at_call 25; (with_reducible refine (LD.out _).mono ?_); rintro e w7 ⟨rfl, rfl⟩) | (go_at_call 30; (with_reducible refine (XC.out _).mono ?_); rintro e w7 ⟨rfl, rfl⟩) | (go_at_call 26; (with_reducible refine (S1.out _).mono ?_); rintro e w7 ⟨rfl, rfl⟩) | (go_at_call 26; (with_reducible refine (S2.out _).mono ?_); rintro e w7 ⟨rfl, rfl⟩) | (go_at_call 26; (with_reducible refine (S3.out _).mono ?_); rintro e w7 ⟨rfl, rfl⟩) | (go_at_call 26; (with_reducible refine (S4.out _).mono ?_); rintro e w7 ⟨rfl, rfl⟩))
    exact hK _ _ _ _ _ _ _ _ _ _ _ _ _ _ _ _ _ _ _ _ _ _ _ _ _ _ _ _ _ _ _ _ _ _ _ _ _ _ _ _ _ _ _ _ _ _ _ _ _ _ _ _ _ _ _ _ _ _ _ _ _ _ _ _ _ _ _ _ _ _ _ _ _ _ _ _ _ _ _ _ _ _ _ _ _ _ _ _ _ _ _ _ _ _ _ _ _ _ _ _ _ _ _ _ _ _ _ _ _ _ _ _ _ _ _ _ _ _ _ _ _ _ (by rw [HO.out]; rfl) hb0
  | some u =>
    have hul := cutS_fit [62] _ _ hcu
    simp only [List.length_drop, List.length_cons, List.length_nil] at hul
    rw [hcu] at XC hO
    simp only [List.length_cons, List.length_nil] at XC
    have HO := Lib.hid hO
    clear hcu hO
    have hx1 : (0 : Int) ≤ (s.length : Int) - (u.length : Int) - (1 : Int) := by omega
    go_wp2_with (first | (go_at_call 25; (with_reducible refine (LC.out _).mono ?_); rintro e w7 ⟨rfl, rfl⟩) | (go_at_call 25; (with_reducible refine (LD.out _).mono ?_); rintro e w7 ⟨rfl, rfl⟩) | (go_at_call 30; (with_reducible refine (XC.out _).mono ?_); rintro e w7 ⟨rfl, rfl⟩) | (go_at_call 26; (with_reducible refine (S1.out _).mono ?_); rintro e w7 ⟨rfl, rfl⟩) | (go_at_call 26; (with_reducible refine (S2.out _).mono ?_); rintro e w7 ⟨rfl, rfl⟩) | (go_at_call 26; (with_reducible refine (S3.out _).mono ?_); rintro e w7 ⟨rfl, rfl⟩) | (go_at_call 26; (with_reducible refine (S4.out _).mono ?_); rintro e w7 ⟨rfl, rfl⟩))
    exact hK _ _ _ _ _ _ _ _ _ _ _ _ _ _ _ _ _ _ _ _ _ _ _ _ _ _ _ _ _ _ _ _ _ _ _ _ _ _ _ _ _ _ _ _ _ _ _ _ _ _ _ _ _ _ _ _ _ _ _ _ _ _ _ _ _ _ _ _ _ _ _ _ _ _ _ _ _ _ _ _ _ _ _ _ _ _ _ _ _ _ _ _ _ _ _ _ _ _ _ _ _ _ _ _ _ _ _ _ _ _ _ _ _ _ _ _ _ _ _ _ _ _ (by rw [HO.out]; exact ⟨by omega, [], .slice none 0 0, hq0⟩) hb0
set_option maxRecDepth 100000 in
set_option maxHeartbeats 4000000 in
theorem sw_47b (s : List UInt8) (k q : Nat) (hs : s.length ≤ 1073741824) (hlt : k < s.length) (hc : s[k] = 60) (h1 : k + 1 < s.length) (hL : ltr s[k + 1] = false) (h47 : s[k + 1] = 47) (h2 : ¬ k + 2 < s.length) (w wr : World) (hq0 : Tkb wr q 0 [] (.slice none 0 0)) (hb0 : Bl w wr) (_hq : w.heap.size ≤ q) (u1 u2 u3 u4 u5 u9 u10 u11 u12 u13 u14 u15 u16 u17 u18 u19 u20 u21 u22 u23 u24 u25 u26 u27 u28 u29 u30 u31 u32 u33 u34 u35 u36 u37 u38 u39 u40 u41 u42 u43 u44 u45 u46 u47 u48 u49 u50 u51 u52 u53 u54 u55 u56 u57 u58 u59 u60 u61 u62 u63 u64 u65 u66 u67 u68 u69 u70 u71 u72 u73 u74 u75 u76 u77 u78 u79 u80 u81 u82 u83 u84 u85 u86 u87 u88 u89 u90 u91 u92 u93 u94 u95 u96 u97 u98 u99 u100 u101 u102 u103 u104 u105 u106 u107 u108 u109 u110 u111 u112 u113 u114 u115 u116 u117 u118 u119 u120 u121 u122 u123 u124 u125 u126 u127 u128 u129 u130 u131 u132 u133 u134 u135 u136 u137 u138 u139 u140 u141 u142 u143 u144 u145 u146 u147 u148 u149 u150 u151 u152 u153 u154 u155 u156 u157 u158 u159 u160 u161 u162 u163 u164 u165 u166 u167 u168 u169 u170 u171 u172 u173 u174 u175 u176 u177 u178 u179 u180 u181 : Value) (K : Act → World → Prop) (Q' : Exit → Act → World → Prop)
    (hK : ∀ (v9 v10 v29 v30 v31 v32 v33 v34 v35 v36 v37 v38 v39 v40 v41 v42 v43 v44 v45 v46 v47 v48 v49 v50 v51 v52 v53 v54 v55 v56 v57 v58 v59 v60 v61 v62 v63 v64 v65 v66 v67 v68 v69 v70 v71 v72 v73 v74 v75 v76 v77 v78 v79 v80 v81 v82 v83 v84 v85 v86 v87 v88 v89 v90 v91 v92 v93 v94 v95 v96 v97 v98 v99 v100 v101 v102 v103 v104 v105 v106 v107 v108 v109 v110 v111 v112 v113 v114 v115 v116 v117 v118 v119 v120 v121 v122 v123 v124 v125 v126 v127 v128 v129 v130 v131 v132 v133 v134 v135 v136 v137 v138 v139 v140 v141 v142 v143 v144 v145 v146 : Value) (jt : Int) (W : World), TgR W w.heap.size q s.length (tagP (s.drop (k + 1))) jt → Bl w W → K ⟨(List.toArray (.string ⟨s.toArray⟩ :: u1 :: u2 :: u3 :: u4 :: u5 :: .int .i64 (k : Int) :: .int .i64 jt :: .pointer (some ⟨q, 0, none⟩) :: v9 :: v10 :: u11 :: u12 :: u13 :: u14 :: u15 :: u16 :: u17 :: u18 :: u19 :: u20 :: u21 :: u22 :: u23 :: u24 :: u25 :: u26 :: u27 :: u28 :: v29 :: v30 :: v31 :: v32 :: v33 :: v34 :: v35 :: v36 :: v37 :: v38 :: v39 :: v40 :: v41 :: v42 :: v43 :: v44 :: v45 :: v46 :: v47 :: v48 :: v49 :: v50 :: v51 :: v52 :: v53 :: v54 :: v55 :: v56 :: v57 :: v58 :: v59 :: v60 :: v61 :: v62 :: v63 :: v64 :: v65 :: v66 :: v67 :: v68 :: v69 :: v70 :: v71 :: v72 :: v73 :: v74 :: v75 :: v76 :: v77 :: v78 :: v79 :: v80 :: v81 :: v82 :: v83 :: v84 :: v85 :: v86 :: v87 :: v88 :: v89 :: v90 :: v91 :: v92 :: v93 :: v94 :: v95 :: v96 :: v97 :: v98 :: v99 :: v100 :: v101 :: v102 :: v103 :: v104 :: v105 :: v106 :: v107 :: v108 :: v109 :: v110 :: v111 :: v112 :: v113 :: v114 :: v115 :: v116 :: v117 :: v118 :: v119 :: v120 :: v121 :: v122 :: v123 :: v124 :: v125 :: v126 :: v127 :: v128 :: v129 :: v130 :: v131 :: v132 :: v133 :: v134 :: v135 :: v136 :: v137 :: v138 :: v139 :: v140 :: v141 :: v142 :: v143 :: v144 :: v145 :: v146 :: u147 :: u148 :: u149 :: u150 :: u151 :: u152 :: u153 :: u154 :: u155 :: u156 :: u157 :: u158 :: u159 :: u160 :: u161 :: u162 :: u163 :: u164 :: u165 :: u166 :: u167 :: u168 :: u169 :: u170 :: u171 :: u172 :: u173 :: u174 :: u175 :: u176 :: u177 :: u178 :: u179 :: u180 :: u181 :: [])), []⟩ W) :
    Code.wp Tryz.prog tob2 (Exit.then K Q') ⟨(List.toArray (.string ⟨s.toArray⟩ :: u1 :: u2 :: u3 :: u4 :: u5 :: .int .i64 (k : Int) :: .int .i64 (-2) :: .pointer (some ⟨q, 0, none⟩) :: u9 :: u10 :: u11 :: u12 :: u13 :: u14 :: u15 :: u16 :: u17 :: u18 :: u19 :: u20 :: u21 :: u22 :: u23 :: u24 :: u25 :: u26 :: u27 :: u28 :: u29 :: u30 :: u31 :: u32 :: u33 :: u34 :: u35 :: u36 :: u37 :: u38 :: u39 :: u40 :: u41 :: u42 :: u43 :: u44 :: u45 :: u46 :: u47 :: u48 :: u49 :: u50 :: u51 :: u52 :: u53 :: u54 :: u55 :: u56 :: u57 :: u58 :: u59 :: u60 :: u61 :: u62 :: u63 :: u64 :: u65 :: u66 :: u67 :: u68 :: u69 :: u70 :: u71 :: u72 :: u73 :: u74 :: u75 :: u76 :: u77 :: u78 :: u79 :: u80 :: u81 :: u82 :: u83 :: u84 :: u85 :: u86 :: u87 :: u88 :: u89 :: u90 :: u91 :: u92 :: u93 :: u94 :: u95 :: u96 :: u97 :: u98 :: u99 :: u100 :: u101 :: u102 :: u103 :: u104 :: u105 :: u106 :: u107 :: u108 :: u109 :: u110 :: u111 :: u112 :: u113 :: u114 :: u115 :: u116 :: u117 :: u118 :: u119 :: u120 :: u121 :: u122 :: u123 :: u124 :: u125 :: u126 :: u127 :: u128 :: u129 :: u130 :: u131 :: u132 :: u133 :: u134 :: u135 :: u136 :: u137 :: u138 :: u139 :: u140 :: u141 :: u142 :: u143 :: u144 :: u145 :: u146 :: u147 :: u148 :: u149 :: u150 :: u151 :: u152 :: u153 :: u154 :: u155 :: u156 :: u157 :: u158 :: u159 :: u160 :: u161 :: u162 :: u163 :: u164 :: u165 :: u166 :: u167 :: u168 :: u169 :: u170 :: u171 :: u172 :: u173 :: u174 :: u175 :: u176 :: u177 :: u178 :: u179 :: u180 :: u181 :: [])), []⟩ wr := by
  have HD : s.drop k = s[k] :: s.drop (k + 1) := List.drop_eq_getElem_cons hlt
  have hlt2 : (k : Int) + 1 ≤ (s.length : Int) := by omega
  obtain ⟨z0, z1, z2, z3, y0, y1, y2, y3⟩ := hq0.cells
  have hql := hq0.lt
  conv => arg 2; whnf
  have hr : s.drop (k + 1) = s[k + 1] :: s.drop (k + 2) := List.drop_eq_getElem_cons h1
  have h1i : (k : Int) + 1 < (s.length : Int) := by omega
  have LC := Lib.hid (fun W => isLetter_c s[k + 1] W)
  rw [hL] at LC
  have HD2 := HD
  have h2i : ¬ (k : Int) + 2 < (s.length : Int) := by omega
  have S1 := Lib.hid (fun W => startsAt_c s [60, 47] k (by omega) (by decide) (by omega) W)
  rw [HD, show pre [60, 47] (s[k] :: s.drop (k + 1)) = true by rw [hc, pre_one]; rw [hr, h47, pre_one]; rfl] at S1
  have S2 := Lib.hid (fun W => startsAt_c s [60, 33, 45, 45] k (by omega) (by decide) (by omega) W)
  rw [HD, show pre [60, 33, 45, 45] (s[k] :: s.drop (k + 1)) = false by rw [hc, pre_one]; rw [hr, h47]; exact pre_ne _ _ (by decide)] at S2
  have S3 := Lib.hid (fun W => startsAt_c s [60, 33] k (by omega) (by decide) (by omega) W)
  rw [HD, show pre [60, 33] (s[k] :: s.drop (k + 1)) = false by rw [hc, pre_one]; rw [hr, h47]; exact pre_ne _ _ (by decide)] at S3
  have S4 := Lib.hid (fun W => startsAt_c s [60, 63] k (by omega) (by decide) (by omega) W)
  rw [HD, show pre [60, 63] (s[k] :: s.drop (k + 1)) = false by rw [hc, pre_one]; rw [hr, h47]; exact pre_ne _ _ (by decide)] at S4
  clear HD
  have XC := Lib.hid (fun W => nextOf_c s [62] k (by omega) (by decide) (by decide) (by omega) W)
  unfold nxI at XC
  have hO : tagP (s.drop (k + 1)) = some ((cutS [62] (s.drop k)).map fun x => (none, x)) := by
    rw [HD2, hc, cutS_skip 62 60 _ (by decide), hr, tagP_cons, if_neg (by rw [hL]; decide), if_neg (by rw [List.drop_eq_nil_of_le (by omega)]; rintro ⟨-, h⟩; simp at h), if_neg (by rw [h47, pre_ne _ _ (by decide)]; decide), if_pos (.inr (.inr h47))]
  try clear hc
  try clear h47
  try clear h33
  try clear h63
  cases hcu : cutS [62] (s.drop k) with
  | none =>
    rw [hcu] at XC hO
    simp only [] at XC
    have HO := Lib.hid hO
    clear hcu hO
    go_wp2_with (first | (go_at_call 25; (with_reducible refine (LC.out _).mono ?_); rintro e w7 ⟨rfl, rfl⟩) | (go_at_call 30; (with_reducible refine (XC.out _).mono ?_); rintro e w7 ⟨rfl, rfl⟩) | (go_at_call 26; (with_reducible refine (S1.out _).mono ?_); rintro e w7 ⟨rfl, rfl⟩) | (go_at_call 26; (with_reducible refine (S2.out _).mono ?_); rintro e w7 ⟨rfl, rfl⟩) | (go_at_call 26; (with_reducible refine (S3.out _).mono ?_); rintro e w7 ⟨rfl, rfl⟩) | (go_at_call 26; (with_reducible refine (S4.out _).mono ?_); rintro e w7 ⟨rfl, rfl⟩))
    exact hK _ _ _ _ _ _ _ _ _ _ _ _ _ _ _ _ _ _ _ _ _ _ _ _ _ _ _ _ _ _ _ _ _ _ _ _ _ _ _ _ _ _ _ _ _ _ _ _ _ _ _ _ _ _ _ _ _ _ _ _ _ _ _ _ _ _ _ _ _ _ _ _ _ _ _ _ _ _ _ _ _ _ _ _ _ _ _ _ _ _ _ _ _ _ _ _ _ _ _ _ _ _ _ _ _ _ _ _ _ _ _ _ _ _ _ _ _ _ _ _ _ _ (by rw [HO.out]; rfl) hb0
  | some u =>
    have hul := cutS_fit [62] _ _ hcu
    simp only [List.length_drop, List.length_cons, List.length_nil] at hul
    rw [hcu] at XC hO
    simp only [List.length_cons, List.length_nil] at XC
    have HO := Lib.hid hO
    clear hcu hO
    have hx1 : (0 : Int) ≤ (s.length : Int) - (u.length : Int) - (1 : Int) := by omega
    go_wp2_with (first | (go_at_call 25; (with_reducible refine (LC.out _).mono ?_); rintro e w7 ⟨rfl, rfl⟩) | (go_at_call 30; (with_reducible refine (XC.out _).mono ?_); rintro e w7 ⟨rfl, rfl⟩) | (go_at_call 26; (with_reducible refine (S1.out _).mono ?_); rintro e w7 ⟨rfl, rfl⟩) | (go_at_call 26; (with_reducible refine (S2.out _).mono ?_); rintro e w7 ⟨rfl, rfl⟩) | (go_at_call 26; (with_reducible refine (S3.out _).mono ?_); rintro e w7 ⟨rfl, rfl⟩) | (go_at_call 26; (with_reducible refine (S4.out _).mono ?_); rintro e w7 ⟨rfl, rfl⟩))
    exact hK _ _ _ _ _ _ _ _ _ _ _ _ _ _ _ _ _ _ _ _ _ _ _ _ _ _ _ _ _ _ _ _ _ _ _ _ _ _ _ _ _ _ _ _ _ _ _ _ _ _ _ _ _ _ _ _ _ _ _ _ _ _ _ _ _ _ _ _ _ _ _ _ _ _ _ _ _ _ _ _ _ _ _ _ _ _ _ _ _ _ _ _ _ _ _ _ _ _ _ _ _ _ _ _ _ _ _ _ _ _ _ _ _ _ _ _ _ _ _ _ _ _ (by rw [HO.out]; exact ⟨by omega, [], .slice none 0 0, hq0⟩) hb0
set_option maxRecDepth 100000 in
set_option maxHeartbeats 4000000 in
theorem sw_33a (s : List UInt8) (k q : Nat) (hs : s.length ≤ 1073741824) (hlt : k < s.length) (hc : s[k] = 60) (h1 : k + 1 < s.length) (hL : ltr s[k + 1] = false) (h47 : s[k + 1] ≠ 47) (h33 : s[k + 1] = 33) (h45 : pre [45, 45] (s.drop (k + 2)) = false) (w wr : World) (hq0 : Tkb wr q 0 [] (.slice none 0 0)) (hb0 : Bl w wr) (_hq : w.heap.size ≤ q) (u1 u2 u3 u4 u5 u9 u10 u11 u12 u13 u14 u15 u16 u17 u18 u19 u20 u21 u22 u23 u24 u25 u26 u27 u28 u29 u30 u31 u32 u33 u34 u35 u36 u37 u38 u39 u40 u41 u42 u43 u44 u45 u46 u47 u48 u49 u50 u51 u52 u53 u54 u55 u56 u57 u58 u59 u60 u61 u62 u63 u64 u65 u66 u67 u68 u69 u70 u71 u72 u73 u74 u75 u76 u77 u78 u79 u80 u81 u82 u83 u84 u85 u86 u87 u88 u89 u90 u91 u92 u93 u94 u95 u96 u97 u98 u99 u100 u101 u102 u103 u104 u105 u106 u107 u108 u109 u110 u111 u112 u113 u114 u115 u116 u117 u118 u119 u120 u121 u122 u123 u124 u125 u126 u127 u128 u129 u130 u131 u132 u133 u134 u135 u136 u137 u138 u139 u140 u141 u142 u143 u144 u145 u146 u147 u148 u149 u150 u151 u152 u153 u154 u155 u156 u157 u158 u159 u160 u161 u162 u163 u164 u165 u166 u167 u168 u169 u170 u171 u172 u173 u174 u175 u176 u177 u178 u179 u180 u181 : Value) (K : Act → World → Prop) (Q' : Exit → Act → World → Prop)
    (hK : ∀ (v9 v10 v29 v30 v31 v32 v33 v34 v35 v36 v37 v38 v39 v40 v41 v42 v43 v44 v45 v46 v47 v48 v49 v50 v51 v52 v53 v54 v55 v56 v57 v58 v59 v60 v61 v62 v63 v64 v65 v66 v67 v68 v69 v70 v71 v72 v73 v74 v75 v76 v77 v78 v79 v80 v81 v82 v83 v84 v85 v86 v87 v88 v89 v90 v91 v92 v93 v94 v95 v96 v97 v98 v99 v100 v101 v102 v103 v104 v105 v106 v107 v108 v109 v110 v111 v112 v113 v114 v115 v116 v117 v118 v119 v120 v121 v122 v123 v124 v125 v126 v127 v128 v129 v130 v131 v132 v133 v134 v135 v136 v137 v138 v139 v140 v141 v142 v143 v144 v145 v146 : Value) (jt : Int) (W : World), TgR W w.heap.size q s.length (tagP (s.drop (k + 1))) jt → Bl w W → K ⟨(List.toArray (.string ⟨s.toArray⟩ :: u1 :: u2 :: u3 :: u4 :: u5 :: .int .i64 (k : Int) :: .int .i64 jt :: .pointer (some ⟨q, 0, none⟩) :: v9 :: v10 :: u11 :: u12 :: u13 :: u14 :: u15 :: u16 :: u17 :: u18 :: u19 :: u20 :: u21 :: u22 :: u23 :: u24 :: u25 :: u26 :: u27 :: u28 :: v29 :: v30 :: v31 :: v32 :: v33 :: v34 :: v35 :: v36 :: v37 :: v38 :: v39 :: v40 :: v41 :: v42 :: v43 :: v44 :: v45 :: v46 :: v47 :: v48 :: v49 :: v50 :: v51 :: v52 :: v53 :: v54 :: v55 :: v56 :: v57 :: v58 :: v59 :: v60 :: v61 :: v62 :: v63 :: v64 :: v65 :: v66 :: v67 :: v68 :: v69 :: v70 :: v71 :: v72 :: v73 :: v74 :: v75 :: v76 :: v77 :: v78 :: v79 :: v80 :: v81 :: v82 :: v83 :: v84 :: v85 :: v86 :: v87 :: v88 :: v89 :: v90 :: v91 :: v92 :: v93 :: v94 :: v95 :: v96 :: v97 :: v98 :: v99 :: v100 :: v101 :: v102 :: v103 :: v104 :: v105 :: v106 :: v107 :: v108 :: v109 :: v110 :: v111 :: v112 :: v113 :: v114 :: v115 :: v116 :: v117 :: v118 :: v119 :: v120 :: v121 :: v122 :: v123 :: v124 :: v125 :: v126 :: v127 :: v128 :: v129 :: v130 :: v131 :: v132 :: v133 :: v134 :: v135 :: v136 :: v137 :: v138 :: v139 :: v140 :: v141 :: v142 :: v143 :: v144 :: v145 :: v146 :: u147 :: u148 :: u149 :: u150 :: u151 :: u152 :: u153 :: u154 :: u155 :: u156 :: u157 :: u158 :: u159 :: u160 :: u161 :: u162 :: u163 :: u164 :: u165 :: u166 :: u167 :: u168 :: u169 :: u170 :: u171 :: u172 :: u173 :: u174 :: u175 :: u176 :: u177 :: u178 :: u179 :: u180 :: u181 :: [])), []⟩ W) :
    Code.wp Tryz.prog tob2 (Exit.then K Q') ⟨(List.toArray (.string ⟨s.toArray⟩ :: u1 :: u2 :: u3 :: u4 :: u5 :: .int .i64 (k : Int) :: .int .i64 (-2) :: .pointer (some ⟨q, 0, none⟩) :: u9 :: u10 :: u11 :: u12 :: u13 :: u14 :: u15 :: u16 :: u17 :: u18 :: u19 :: u20 :: u21 :: u22 :: u23 :: u24 :: u25 :: u26 :: u27 :: u28 :: u29 :: u30 :: u31 :: u32 :: u33 :: u34 :: u35 :: u36 :: u37 :: u38 :: u39 :: u40 :: u41 :: u42 :: u43 :: u44 :: u45 :: u46 :: u47 :: u48 :: u49 :: u50 :: u51 :: u52 :: u53 :: u54 :: u55 :: u56 :: u57 :: u58 :: u59 :: u60 :: u61 :: u62 :: u63 :: u64 :: u65 :: u66 :: u67 :: u68 :: u69 :: u70 :: u71 :: u72 :: u73 :: u74 :: u75 :: u76 :: u77 :: u78 :: u79 :: u80 :: u81 :: u82 :: u83 :: u84 :: u85 :: u86 :: u87 :: u88 :: u89 :: u90 :: u91 :: u92 :: u93 :: u94 :: u95 :: u96 :: u97 :: u98 :: u99 :: u100 :: u101 :: u102 :: u103 :: u104 :: u105 :: u106 :: u107 :: u108 :: u109 :: u110 :: u111 :: u112 :: u113 :: u114 :: u115 :: u116 :: u117 :: u118 :: u119 :: u120 :: u121 :: u122 :: u123 :: u124 :: u125 :: u126 :: u127 :: u128 :: u129 :: u130 :: u131 :: u132 :: u133 :: u134 :: u135 :: u136 :: u137 :: u138 :: u139 :: u140 :: u141 :: u142 :: u143 :: u144 :: u145 :: u146 :: u147 :: u148 :: u149 :: u150 :: u151 :: u152 :: u153 :: u154 :: u155 :: u156 :: u157 :: u158 :: u159 :: u160 :: u161 :: u162 :: u163 :: u164 :: u165 :: u166 :: u167 :: u168 :: u169 :: u170 :: u171 :: u172 :: u173 :: u174 :: u175 :: u176 :: u177 :: u178 :: u179 :: u180 :: u181 :: [])), []⟩ wr := by
  have HD : s.drop k = s[k] :: s.drop (k + 1) := List.drop_eq_getElem_cons hlt
  have hlt2 : (k : Int) + 1 ≤ (s.length : Int) := by omega
  obtain ⟨z0, z1, z2, z3, y0, y1, y2, y3⟩ := hq0.cells
  have hql := hq0.lt
  conv => arg 2; whnf
  have hr : s.drop (k + 1) = s[k + 1] :: s.drop (k + 2) := List.drop_eq_getElem_cons h1
  have h1i : (k : Int) + 1 < (s.length : Int) := by omega
  have LC := Lib.hid (fun W => isLetter_c s[k + 1] W)
  rw [hL] at LC
  have HD2 := HD
  have S1 := Lib.hid (fun W => startsAt_c s [60, 47] k (by omega) (by decide) (by omega) W)
  rw [HD, show pre [60, 47] (s[k] :: s.drop (k + 1)) = false by rw [hc, pre_one]; rw [hr]; exact pre_ne _ _ h47] at S1
  have S2 := Lib.hid (fun W => startsAt_c s [60, 33, 45, 45] k (by omega) (by decide) (by omega) W)
  rw [HD, show pre [60, 33, 45, 45] (s[k] :: s.drop (k + 1)) = false by rw [hc, pre_one]; rw [hr, h33, pre_one]; exact h45] at S2
  have S3 := Lib.hid (fun W => startsAt_c s [60, 33] k (by omega) (by decide) (by omega) W)
  rw [HD, show pre [60, 33] (s[k] :: s.drop (k + 1)) = true by rw [hc, pre_one]; rw [hr, h33, pre_one]; rfl] at S3
  clear HD
  have XC := Lib.hid (fun W => nextOf_c s [62] k (by omega) (by decide) (by decide) (by omega) W)
  unfold nxI at XC
  have hO : tagP (s.drop (k + 1)) = some ((cutS [62] (s.drop k)).map fun x => (none, x)) := by
    rw [HD2, hc, cutS_skip 62 60 _ (by decide), hr, tagP_cons, if_neg (by rw [hL]; decide), if_neg (fun h => h47 h.1), if_neg (by rw [h33, pre_one, h45]; decide), if_pos (.inl h33)]
  try clear hc
  try clear h47
  try clear h33
  try clear h63
  cases hcu : cutS [62] (s.drop k) with
  | none =>
    rw [hcu] at XC hO
    simp only [] at XC
    have HO := Lib.hid hO
    clear hcu hO
    go_wp2_with (first | (go_at_call 25; (with_reducible refine (LC.out _).mono ?_); rintro e w7 ⟨rfl, rfl⟩) | (go_at_call 30; (with_reducible refine (XC.out _).mono ?_); rintro e w7 ⟨rfl, rfl⟩) | (go_at_call 26; (with_reducible refine (S1.out _).mono ?_); rintro e w7 ⟨rfl, rfl⟩) | (go_at_call 26; (with_reducible refine (S2.out _).mono ?_); rintro e w7 ⟨rfl, rfl⟩) | (go_at_call 26; (with_reducible refine (S3.out _).mono ?_); rintro e w7 ⟨rfl, rfl⟩))
    exact hK _ _ _ _ _ _ _ _ _ _ _ _ _ _ _ _ _ _ _ _ _ _ _ _ _ _ _ _ _ _ _ _ _ _ _ _ _ _ _ _ _ _ _ _ _ _ _ _ _ _ _ _ _ _ _ _ _ _ _ _ _ _ _ _ _ _ _ _ _ _ _ _ _ _ _ _ _ _ _ _ _ _ _ _ _ _ _ _ _ _ _ _ _ _ _ _ _ _ _ _ _ _ _ _ _ _ _ _ _ _ _ _ _ _ _ _ _ _ _ _ _ _ (by rw [HO.out]; rfl) hb0
  | some u =>
    have hul := cutS_fit [62] _ _ hcu
    simp only [List.length_drop, List.length_cons, List.length_nil] at hul
    rw [hcu] at XC hO
    simp only [List.length_cons, List.length_nil] at XC
    have HO := Lib.hid hO
    clear hcu hO
    have hx1 : (0 : Int) ≤ (s.length : Int) - (u.length : Int) - (1 : Int) := by omega
    go_wp2_with (first | (go_at_call 25; (with_reducible refine (LC.out _).mono ?_); rintro e w7 ⟨rfl, rfl⟩) | (go_at_call 30; (with_reducible refine (XC.out _).mono ?_); rintro e w7 ⟨rfl, rfl⟩) | (go_at_call 26; (with_reducible refine (S1.out _).mono ?_); rintro e w7 ⟨rfl, rfl⟩) | (go_at_call 26; (with_reducible refine (S2.out _).mono ?_); rintro e w7 ⟨rfl, rfl⟩) | (go_at_call 26; (with_reducible refine (S3.out _).mono ?_); rintro e w7 ⟨rfl, rfl⟩))
    exact hK _ _ _ _ _ _ _ _ _ _ _ _ _ _ _ _ _ _ _ _ _ _ _ _ _ _ _ _ _ _ _ _ _ _ _ _ _ _ _ _ _ _ _ _ _ _ _ _ _ _ _ _ _ _ _ _ _ _ _ _ _ _ _ _ _ _ _ _ _ _ _ _ _ _ _ _ _ _ _ _ _ _ _ _ _ _ _ _ _ _ _ _ _ _ _ _ _ _ _ _ _ _ _ _ _ _ _ _ _ _ _ _ _ _ _ _ _ _ _ _ _ _ (by rw [HO.out]; exact ⟨by omega, [], .slice none 0 0, hq0⟩) hb0
set_option maxRecDepth 100000 in
set_option maxHeartbeats 4000000 in
theorem sw_33b (s : List UInt8) (k q : Nat) (hs : s.length ≤ 1073741824) (hlt : k < s.length) (hc : s[k] = 60) (h1 : k + 1 < s.length) (hL : ltr s[k + 1] = false) (h47 : s[k + 1] ≠ 47) (h33 : s[k + 1] = 33) (h45 : pre [45, 45] (s.drop (k + 2)) = true) (h2 : k + 2 ≤ s.length) (w wr : World) (hq0 : Tkb wr q 0 [] (.slice none 0 0)) (hb0 : Bl w wr) (_hq : w.heap.size ≤ q) (u1 u2 u3 u4 u5 u9 u10 u11 u12 u13 u14 u15 u16 u17 u18 u19 u20 u21 u22 u23 u24 u25 u26 u27 u28 u29 u30 u31 u32 u33 u34 u35 u36 u37 u38 u39 u40 u41 u42 u43 u44 u45 u46 u47 u48 u49 u50 u51 u52 u53 u54 u55 u56 u57 u58 u59 u60 u61 u62 u63 u64 u65 u66 u67 u68 u69 u70 u71 u72 u73 u74 u75 u76 u77 u78 u79 u80 u81 u82 u83 u84 u85 u86 u87 u88 u89 u90 u91 u92 u93 u94 u95 u96 u97 u98 u99 u100 u101 u102 u103 u104 u105 u106 u107 u108 u109 u110 u111 u112 u113 u114 u115 u116 u117 u118 u119 u120 u121 u122 u123 u124 u125 u126 u127 u128 u129 u130 u131 u132 u133 u134 u135 u136 u137 u138 u139 u140 u141 u142 u143 u144 u145 u146 u147 u148 u149 u150 u151 u152 u153 u154 u155 u156 u157 u158 u159 u160 u161 u162 u163 u164 u165 u166 u167 u168 u169 u170 u171 u172 u173 u174 u175 u176 u177 u178 u179 u180 u181 : Value) (K : Act → World → Prop) (Q' : Exit → Act → World → Prop)
    (hK : ∀ (v9 v10 v29 v30 v31 v32 v33 v34 v35 v36 v37 v38 v39 v40 v41 v42 v43 v44 v45 v46 v47 v48 v49 v50 v51 v52 v53 v54 v55 v56 v57 v58 v59 v60 v61 v62 v63 v64 v65 v66 v67 v68 v69 v70 v71 v72 v73 v74 v75 v76 v77 v78 v79 v80 v81 v82 v83 v84 v85 v86 v87 v88 v89 v90 v91 v92 v93 v94 v95 v96 v97 v98 v99 v100 v101 v102 v103 v104 v105 v106 v107 v108 v109 v110 v111 v112 v113 v114 v115 v116 v117 v118 v119 v120 v121 v122 v123 v124 v125 v126 v127 v128 v129 v130 v131 v132 v133 v134 v135 v136 v137 v138 v139 v140 v141 v142 v143 v144 v145 v146 : Value) (jt : Int) (W : World), TgR W w.heap.size q s.length (tagP (s.drop (k + 1))) jt → Bl w W → K ⟨(List.toArray (.string ⟨s.toArray⟩ :: u1 :: u2 :: u3 :: u4 :: u5 :: .int .i64 (k : Int) :: .int .i64 jt :: .pointer (some ⟨q, 0, none⟩) :: v9 :: v10 :: u11 :: u12 :: u13 :: u14 :: u15 :: u16 :: u17 :: u18 :: u19 :: u20 :: u21 :: u22 :: u23 :: u24 :: u25 :: u26 :: u27 :: u28 :: v29 :: v30 :: v31 :: v32 :: v33 :: v34 :: v35 :: v36 :: v37 :: v38 :: v39 :: v40 :: v41 :: v42 :: v43 :: v44 :: v45 :: v46 :: v47 :: v48 :: v49 :: v50 :: v51 :: v52 :: v53 :: v54 :: v55 :: v56 :: v57 :: v58 :: v59 :: v60 :: v61 :: v62 :: v63 :: v64 :: v65 :: v66 :: v67 :: v68 :: v69 :: v70 :: v71 :: v72 :: v73 :: v74 :: v75 :: v76 :: v77 :: v78 :: v79 :: v80 :: v81 :: v82 :: v83 :: v84 :: v85 :: v86 :: v87 :: v88 :: v89 :: v90 :: v91 :: v92 :: v93 :: v94 :: v95 :: v96 :: v97 :: v98 :: v99 :: v100 :: v101 :: v102 :: v103 :: v104 :: v105 :: v106 :: v107 :: v108 :: v109 :: v110 :: v111 :: v112 :: v113 :: v114 :: v115 :: v116 :: v117 :: v118 :: v119 :: v120 :: v121 :: v122 :: v123 :: v124 :: v125 :: v126 :: v127 :: v128 :: v129 :: v130 :: v131 :: v132 :: v133 :: v134 :: v135 :: v136 :: v137 :: v138 :: v139 :: v140 :: v141 :: v142 :: v143 :: v144 :: v145 :: v146 :: u147 :: u148 :: u149 :: u150 :: u151 :: u152 :: u153 :: u154 :: u155 :: u156 :: u157 :: u158 :: u159 :: u160 :: u161 :: u162 :: u163 :: u164 :: u165 :: u166 :: u167 :: u168 :: u169 :: u170 :: u171 :: u172 :: u173 :: u174 :: u175 :: u176 :: u177 :: u178 :: u179 :: u180 :: u181 :: [])), []⟩ W) :
    Code.wp Tryz.prog tob2 (Exit.then K Q') ⟨(List.toArray (.string ⟨s.toArray⟩ :: u1 :: u2 :: u3 :: u4 :: u5 :: .int .i64 (k : Int) :: .int .i64 (-2) :: .pointer (some ⟨q, 0, none⟩) :: u9 :: u10 :: u11 :: u12 :: u13 :: u14 :: u15 :: u16 :: u17 :: u18 :: u19 :: u20 :: u21 :: u22 :: u23 :: u24 :: u25 :: u26 :: u27 :: u28 :: u29 :: u30 :: u31 :: u32 :: u33 :: u34 :: u35 :: u36 :: u37 :: u38 :: u39 :: u40 :: u41 :: u42 :: u43 :: u44 :: u45 :: u46 :: u47 :: u48 :: u49 :: u50 :: u51 :: u52 :: u53 :: u54 :: u55 :: u56 :: u57 :: u58 :: u59 :: u60 :: u61 :: u62 :: u63 :: u64 :: u65 :: u66 :: u67 :: u68 :: u69 :: u70 :: u71 :: u72 :: u73 :: u74 :: u75 :: u76 :: u77 :: u78 :: u79 :: u80 :: u81 :: u82 :: u83 :: u84 :: u85 :: u86 :: u87 :: u88 :: u89 :: u90 :: u91 :: u92 :: u93 :: u94 :: u95 :: u96 :: u97 :: u98 :: u99 :: u100 :: u101 :: u102 :: u103 :: u104 :: u105 :: u106 :: u107 :: u108 :: u109 :: u110 :: u111 :: u112 :: u113 :: u114 :: u115 :: u116 :: u117 :: u118 :: u119 :: u120 :: u121 :: u122 :: u123 :: u124 :: u125 :: u126 :: u127 :: u128 :: u129 :: u130 :: u131 :: u132 :: u133 :: u134 :: u135 :: u136 :: u137 :: u138 :: u139 :: u140 :: u141 :: u142 :: u143 :: u144 :: u145 :: u146 :: u147 :: u148 :: u149 :: u150 :: u151 :: u152 :: u153 :: u154 :: u155 :: u156 :: u157 :: u158 :: u159 :: u160 :: u161 :: u162 :: u163 :: u164 :: u165 :: u166 :: u167 :: u168 :: u169 :: u170 :: u171 :: u172 :: u173 :: u174 :: u175 :: u176 :: u177 :: u178 :: u179 :: u180 :: u181 :: [])), []⟩ wr := by
  have HD : s.drop k = s[k] :: s.drop (k + 1) := List.drop_eq_getElem_cons hlt
  have hlt2 : (k : Int) + 1 ≤ (s.length : Int) := by omega
  obtain ⟨z0, z1, z2, z3, y0, y1, y2, y3⟩ := hq0.cells
  have hql := hq0.lt
  conv => arg 2; whnf
  have hr : s.drop (k + 1) = s[k + 1] :: s.drop (k + 2) := List.drop_eq_getElem_cons h1
  have h1i : (k : Int) + 1 < (s.length : Int) := by omega
  have LC := Lib.hid (fun W => isLetter_c s[k + 1] W)
  rw [hL] at LC
  have HD2 := HD
  have S1 := Lib.hid (fun W => startsAt_c s [60, 47] k (by omega) (by decide) (by omega) W)
  rw [HD, show pre [60, 47] (s[k] :: s.drop (k + 1)) = false by rw [hc, pre_one]; rw [hr]; exact pre_ne _ _ h47] at S1
  have S2 := Lib.hid (fun W => startsAt_c s [60, 33, 45, 45] k (by omega) (by decide) (by omega) W)
  rw [HD, show pre [60, 33, 45, 45] (s[k] :: s.drop (k + 1)) = true by rw [hc, pre_one]; rw [hr, h33, pre_one]; exact h45] at S2
  clear HD
  have XC := Lib.hid (fun W => nextOf_c s [45, 45, 62] (k + 2) (by omega) (by decide) (by decide) (by omega) W)
  unfold nxI at XC
  have hO : tagP (s.drop (k + 1)) = some ((cutS [45, 45, 62] (s.drop (k + 2))).map fun x => (none, x)) := by
    rw [hr, tagP_cons, if_neg (by rw [hL]; decide), if_neg (fun h => h47 h.1), if_pos (by rw [h33, pre_one]; exact h45)]
  rw [show ((k + 2 : Nat) : Int) = (k : Int) + 2 by omega] at XC
  have h2i : (k : Int) + 2 ≤ (s.length : Int) := by omega
  try clear hc
  try clear h47
  try clear h33
  try clear h63
  cases hcu : cutS [45, 45, 62] (s.drop (k + 2)) with
  | none =>
    rw [hcu] at XC hO
    simp only [] at XC
    have HO := Lib.hid hO
    clear hcu hO
    go_wp2_with (first | (go_at_call 25; (with_reducible refine (LC.out _).mono ?_); rintro e w7 ⟨rfl, rfl⟩) | (go_at_call 30; (with_reducible refine (XC.out _).mono ?_); rintro e w7 ⟨rfl, rfl⟩) | (go_at_call 26; (with_reducible refine (S1.out _).mono ?_); rintro e w7 ⟨rfl, rfl⟩) | (go_at_call 26; (with_reducible refine (S2.out _).mono ?_); rintro e w7 ⟨rfl, rfl⟩))
    exact hK _ _ _ _ _ _ _ _ _ _ _ _ _ _ _ _ _ _ _ _ _ _ _ _ _ _ _ _ _ _ _ _ _ _ _ _ _ _ _ _ _ _ _ _ _ _ _ _ _ _ _ _ _ _ _ _ _ _ _ _ _ _ _ _ _ _ _ _ _ _ _ _ _ _ _ _ _ _ _ _ _ _ _ _ _ _ _ _ _ _ _ _ _ _ _ _ _ _ _ _ _ _ _ _ _ _ _ _ _ _ _ _ _ _ _ _ _ _ _ _ _ _ (by rw [HO.out]; rfl) hb0
  | some u =>
    have hul := cutS_fit [45, 45, 62] _ _ hcu
    simp only [List.length_drop, List.length_cons, List.length_nil] at hul
    rw [hcu] at XC hO
    simp only [List.length_cons, List.length_nil] at XC
    have HO := Lib.hid hO
    clear hcu hO
    have hx1 : (0 : Int) ≤ (s.length : Int) - (u.length : Int) - (3 : Int) := by omega
    go_wp2_with (first | (go_at_call 25; (with_reducible refine (LC.out _).mono ?_); rintro e w7 ⟨rfl, rfl⟩) | (go_at_call 30; (with_reducible refine (XC.out _).mono ?_); rintro e w7 ⟨rfl, rfl⟩) | (go_at_call 26; (with_reducible refine (S1.out _).mono ?_); rintro e w7 ⟨rfl, rfl⟩) | (go_at_call 26; (with_reducible refine (S2.out _).mono ?_); rintro e w7 ⟨rfl, rfl⟩))
    exact hK _ _ _ _ _ _ _ _ _ _ _ _ _ _ _ _ _ _ _ _ _ _ _ _ _ _ _ _ _ _ _ _ _ _ _ _ _ _ _ _ _ _ _ _ _ _ _ _ _ _ _ _ _ _ _ _ _ _ _ _ _ _ _ _ _ _ _ _ _ _ _ _ _ _ _ _ _ _ _ _ _ _ _ _ _ _ _ _ _ _ _ _ _ _ _ _ _ _ _ _ _ _ _ _ _ _ _ _ _ _ _ _ _ _ _ _ _ _ _ _ _ _ (by rw [HO.out]; exact ⟨by omega, [], .slice none 0 0, hq0⟩) hb0
set_option maxRecDepth 100000 in
set_option maxHeartbeats 4000000 in
theorem sw_63 (s : List UInt8) (k q : Nat) (hs : s.length ≤ 1073741824) (hlt : k < s.length) (hc : s[k] = 60) (h1 : k + 1 < s.length) (hL : ltr s[k + 1] = false) (h47 : s[k + 1] ≠ 47) (h33 : s[k + 1] ≠ 33) (h63 : s[k + 1] = 63) (w wr : World) (hq0 : Tkb wr q 0 [] (.slice none 0 0)) (hb0 : Bl w wr) (_hq : w.heap.size ≤ q) (u1 u2 u3 u4 u5 u9 u10 u11 u12 u13 u14 u15 u16 u17 u18 u19 u20 u21 u22 u23 u24 u25 u26 u27 u28 u29 u30 u31 u32 u33 u34 u35 u36 u37 u38 u39 u40 u41 u42 u43 u44 u45 u46 u47 u48 u49 u50 u51 u52 u53 u54 u55 u56 u57 u58 u59 u60 u61 u62 u63 u64 u65 u66 u67 u68 u69 u70 u71 u72 u73 u74 u75 u76 u77 u78 u79 u80 u81 u82 u83 u84 u85 u86 u87 u88 u89 u90 u91 u92 u93 u94 u95 u96 u97 u98 u99 u100 u101 u102 u103 u104 u105 u106 u107 u108 u109 u110 u111 u112 u113 u114 u115 u116 u117 u118 u119 u120 u121 u122 u123 u124 u125 u126 u127 u128 u129 u130 u131 u132 u133 u134 u135 u136 u137 u138 u139 u140 u141 u142 u143 u144 u145 u146 u147 u148 u149 u150 u151 u152 u153 u154 u155 u156 u157 u158 u159 u160 u161 u162 u163 u164 u165 u166 u167 u168 u169 u170 u171 u172 u173 u174 u175 u176 u177 u178 u179 u180 u181 : Value) (K : Act → World → Prop) (Q' : Exit → Act → World → Prop)
    (hK : ∀ (v9 v10 v29 v30 v31 v32 v33 v34 v35 v36 v37 v38 v39 v40 v41 v42 v43 v44 v45 v46 v47 v48 v49 v50 v51 v52 v53 v54 v55 v56 v57 v58 v59 v60 v61 v62 v63 v64 v65 v66 v67 v68 v69 v70 v71 v72 v73 v74 v75 v76 v77 v78 v79 v80 v81 v82 v83 v84 v85 v86 v87 v88 v89 v90 v91 v92 v93 v94 v95 v96 v97 v98 v99 v100 v101 v102 v103 v104 v105 v106 v107 v108 v109 v110 v111 v112 v113 v114 v115 v116 v117 v118 v119 v120 v121 v122 v123 v124 v125 v126 v127 v128 v129 v130 v131 v132 v133 v134 v135 v136 v137 v138 v139 v140 v141 v142 v143 v144 v145 v146 : Value) (jt : Int) (W : World), TgR W w.heap.size q s.length (tagP (s.drop (k + 1))) jt → Bl w W → K ⟨(List.toArray (.string ⟨s.toArray⟩ :: u1 :: u2 :: u3 :: u4 :: u5 :: .int .i64 (k : Int) :: .int .i64 jt :: .pointer (some ⟨q, 0, none⟩) :: v9 :: v10 :: u11 :: u12 :: u13 :: u14 :: u15 :: u16 :: u17 :: u18 :: u19 :: u20 :: u21 :: u22 :: u23 :: u24 :: u25 :: u26 :: u27 :: u28 :: v29 :: v30 :: v31 :: v32 :: v33 :: v34 :: v35 :: v36 :: v37 :: v38 :: v39 :: v40 :: v41 :: v42 :: v43 :: v44 :: v45 :: v46 :: v47 :: v48 :: v49 :: v50 :: v51 :: v52 :: v53 :: v54 :: v55 :: v56 :: v57 :: v58 :: v59 :: v60 :: v61 :: v62 :: v63 :: v64 :: v65 :: v66 :: v67 :: v68 :: v69 :: v70 :: v71 :: v72 :: v73 :: v74 :: v75 :: v76 :: v77 :: v78 :: v79 :: v80 :: v81 :: v82 :: v83 :: v84 :: v85 :: v86 :: v87 :: v88 :: v89 :: v90 :: v91 :: v92 :: v93 :: v94 :: v95 :: v96 :: v97 :: v98 :: v99 :: v100 :: v101 :: v102 :: v103 :: v104 :: v105 :: v106 :: v107 :: v108 :: v109 :: v110 :: v111 :: v112 :: v113 :: v114 :: v115 :: v116 :: v117 :: v118 :: v119 :: v120 :: v121 :: v122 :: v123 :: v124 :: v125 :: v126 :: v127 :: v128 :: v129 :: v130 :: v131 :: v132 :: v133 :: v134 :: v135 :: v136 :: v137 :: v138 :: v139 :: v140 :: v141 :: v142 :: v143 :: v144 :: v145 :: v146 :: u147 :: u148 :: u149 :: u150 :: u151 :: u152 :: u153 :: u154 :: u155 :: u156 :: u157 :: u158 :: u159 :: u160 :: u161 :: u162 :: u163 :: u164 :: u165 :: u166 :: u167 :: u168 :: u169 :: u170 :: u171 :: u172 :: u173 :: u174 :: u175 :: u176 :: u177 :: u178 :: u179 :: u180 :: u181 :: [])), []⟩ W) :
    Code.wp Tryz.prog tob2 (Exit.then K Q') ⟨(List.toArray (.string ⟨s.toArray⟩ :: u1 :: u2 :: u3 :: u4 :: u5 :: .int .i64 (k : Int) :: .int .i64 (-2) :: .pointer (some ⟨q, 0, none⟩) :: u9 :: u10 :: u11 :: u12 :: u13 :: u14 :: u15 :: u16 :: u17 :: u18 :: u19 :: u20 :: u21 :: u22 :: u23 :: u24 :: u25 :: u26 :: u27 :: u28 :: u29 :: u30 :: u31 :: u32 :: u33 :: u34 :: u35 :: u36 :: u37 :: u38 :: u39 :: u40 :: u41 :: u42 :: u43 :: u44 :: u45 :: u46 :: u47 :: u48 :: u49 :: u50 :: u51 :: u52 :: u53 :: u54 :: u55 :: u56 :: u57 :: u58 :: u59 :: u60 :: u61 :: u62 :: u63 :: u64 :: u65 :: u66 :: u67 :: u68 :: u69 :: u70 :: u71 :: u72 :: u73 :: u74 :: u75 :: u76 :: u77 :: u78 :: u79 :: u80 :: u81 :: u82 :: u83 :: u84 :: u85 :: u86 :: u87 :: u88 :: u89 :: u90 :: u91 :: u92 :: u93 :: u94 :: u95 :: u96 :: u97 :: u98 :: u99 :: u100 :: u101 :: u102 :: u103 :: u104 :: u105 :: u106 :: u107 :: u108 :: u109 :: u110 :: u111 :: u112 :: u113 :: u114 :: u115 :: u116 :: u117 :: u118 :: u119 :: u120 :: u121 :: u122 :: u123 :: u124 :: u125 :: u126 :: u127 :: u128 :: u129 :: u130 :: u131 :: u132 :: u133 :: u134 :: u135 :: u136 :: u137 :: u138 :: u139 :: u140 :: u141 :: u142 :: u143 :: u144 :: u145 :: u146 :: u147 :: u148 :: u149 :: u150 :: u151 :: u152 :: u153 :: u154 :: u155 :: u156 :: u157 :: u158 :: u159 :: u160 :: u161 :: u162 :: u163 :: u164 :: u165 :: u166 :: u167 :: u168 :: u169 :: u170 :: u171 :: u172 :: u173 :: u174 :: u175 :: u176 :: u177 :: u178 :: u179 :: u180 :: u181 :: [])), []⟩ wr := by
  have HD : s.drop k = s[k] :: s.drop (k + 1) := List.drop_eq_getElem_cons hlt
  have hlt2 : (k : Int) + 1 ≤ (s.length : Int) := by omega
  obtain ⟨z0, z1, z2, z3, y0, y1, y2, y3⟩ := hq0.cells
  have hql := hq0.lt
  conv => arg 2; whnf
  have hr : s.drop (k + 1) = s[k + 1] :: s.drop (k + 2) := List.drop_eq_getElem_cons h1
  have h1i : (k : Int) + 1 < (s.length : Int) := by omega
  have LC := Lib.hid (fun W => isLetter_c s[k + 1] W)
  rw [hL] at LC
  have HD2 := HD
  have S1 := Lib.hid (fun W => startsAt_c s [60, 47] k (by omega) (by decide) (by omega) W)
  rw [HD, show pre [60, 47] (s[k] :: s.drop (k + 1)) = false by rw [hc, pre_one]; rw [hr]; exact pre_ne _ _ h47] at S1
  have S2 := Lib.hid (fun W => startsAt_c s [60, 33, 45, 45] k (by omega) (by decide) (by omega) W)
  rw [HD, show pre [60, 33, 45, 45] (s[k] :: s.drop (k + 1)) = false by rw [hc, pre_one]; rw [hr]; exact pre_ne _ _ h33] at S2
  have S3 := Lib.hid (fun W => startsAt_c s [60, 33] k (by omega) (by decide) (by omega) W)
  rw [HD, show pre [60, 33] (s[k] :: s.drop (k + 1)) = false by rw [hc, pre_one]; rw [hr]; exact pre_ne _ _ h33] at S3
  have S4 := Lib.hid (fun W => startsAt_c s [60, 63] k (by omega) (by decide) (by omega) W)
  rw [HD, show pre [60, 63] (s[k] :: s.drop (k + 1)) = true by rw [hc, pre_one]; rw [hr, h63, pre_one]; rfl] at S4
  clear HD
  have XC := Lib.hid (fun W => nextOf_c s [62] k (by omega) (by decide) (by decide) (by omega) W)
  unfold nxI at XC
  have hO : tagP (s.drop (k + 1)) = some ((cutS [62] (s.drop k)).map fun x => (none, x)) := by
    rw [HD2, hc, cutS_skip 62 60 _ (by decide), hr, tagP_cons, if_neg (by rw [hL]; decide), if_neg (fun h => h47 h.1), if_neg (by rw [pre_ne _ _ h33]; decide), if_pos (.inr (.inl h63))]
  try clear hc
  try clear h47
  try clear h33
  try clear h63
  cases hcu : cutS [62] (s.drop k) with
  | none =>
    rw [hcu] at XC hO
    simp only [] at XC
    have HO := Lib.hid hO
    clear hcu hO
    go_wp2_with (first | (go_at_call 25; (with_reducible refine (LC.out _).mono ?_); rintro e w7 ⟨rfl, rfl⟩) | (go_at_call 30; (with_reducible refine (XC.out _).mono ?_); rintro e w7 ⟨rfl, rfl⟩) | (go_at_call 26; (with_reducible refine (S1.out _).mono ?_); rintro e w7 ⟨rfl, rfl⟩) | (go_at_call 26; (with_reducible refine (S2.out _).mono ?_); rintro e w7 ⟨rfl, rfl⟩) | (go_at_call 26; (with_reducible refine (S3.out _).mono ?_); rintro e w7 ⟨rfl, rfl⟩) | (go_at_call 26; (with_reducible refine (S4.out _).mono ?_); rintro e w7 ⟨rfl, rfl⟩))
    exact hK _ _ _ _ _ _ _ _ _ _ _ _ _ _ _ _ _ _ _ _ _ _ _ _ _ _ _ _ _ _ _ _ _ _ _ _ _ _ _ _ _ _ _ _ _ _ _ _ _ _ _ _ _ _ _ _ _ _ _ _ _ _ _ _ _ _ _ _ _ _ _ _ _ _ _ _ _ _ _ _ _ _ _ _ _ _ _ _ _ _ _ _ _ _ _ _ _ _ _ _ _ _ _ _ _ _ _ _ _ _ _ _ _ _ _ _ _ _ _ _ _ _ (by rw [HO.out]; rfl) hb0
  | some u =>
    have hul := cutS_fit [62] _ _ hcu
    simp only [List.length_drop, List.length_cons, List.length_nil] at hul
    rw [hcu] at XC hO
    simp only [List.length_cons, List.length_nil] at XC
    have HO := Lib.hid hO
    clear hcu hO
    have hx1 : (0 : Int) ≤ (s.length : Int) - (u.length : Int) - (1 : Int) := by omega
    go_wp2_with (first | (go_at_call 25; (with_reducible refine (LC.out _).mono ?_); rintro e w7 ⟨rfl, rfl⟩) | (go_at_call 30; (with_reducible refine (XC.out _).mono ?_); rintro e w7 ⟨rfl, rfl⟩) | (go_at_call 26; (with_reducible refine (S1.out _).mono ?_); rintro e w7 ⟨rfl, rfl⟩) | (go_at_call 26; (with_reducible refine (S2.out _).mono ?_); rintro e w7 ⟨rfl, rfl⟩) | (go_at_call 26; (with_reducible refine (S3.out _).mono ?_); rintro e w7 ⟨rfl, rfl⟩) | (go_at_call 26; (with_reducible refine (S4.out _).mono ?_); rintro e w7 ⟨rfl, rfl⟩))
    exact hK _ _ _ _ _ _ _ _ _ _ _ _ _ _ _ _ _ _ _ _ _ _ _ _ _ _ _ _ _ _ _ _ _ _ _ _ _ _ _ _ _ _ _ _ _ _ _ _ _ _ _ _ _ _ _ _ _ _ _ _ _ _ _ _ _ _ _ _ _ _ _ _ _ _ _ _ _ _ _ _ _ _ _ _ _ _ _ _ _ _ _ _ _ _ _ _ _ _ _ _ _ _ _ _ _ _ _ _ _ _ _ _ _ _ _ _ _ _ _ _ _ _ (by rw [HO.out]; exact ⟨by omega, [], .slice none 0 0, hq0⟩) hb0
end Go.Proofs.YtoaecehkmoehjaaGreatDoor

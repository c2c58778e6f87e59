/- Tokens: the reference: the loops of attrsAt (printed by gen_tokat.py). -/
import Derived.Test.YtoaecehkmoehjaaGreatDoorTokRe
import Derived.Test.YtoaecehkmoehjaaGreatDoorEscO
import Derived.Deep.CutBlock
namespace Go.Proofs.YtoaecehkmoehjaaGreatDoor
open Go.RowKit

/-- How attrsAt ends. -/
def AaEnd (w0 : World) (s : List UInt8) (R : Option (List Atr × List UInt8)) (e : Ending) (w' : World) : Prop :=
  Bl w0 w' ∧ match R with
    | none => e = .returned (.tuple #[.slice none 0 0, .int .i64 (-1)])
    | some (l, u) => ∃ va n, e = .returned (.tuple #[va, .int .i64 n]) ∧ n = (s.length : Int) - u.length ∧ AtO w' w0.heap.size va l
theorem Ab.of_qt {w w' : World} {q : Nat} {n y : List UInt8} (h : Ab w q n y) (hb : Qt w w') : Ab w' q n y := h.of_bl hb.bl
theorem Bl.setnew {w W : World} (h : Bl w W) {q : Nat} (hq : w.heap.size ≤ q) (o : Nat) (v : Value) : Bl w (W.setCell ⟨q, o, none⟩ v) := Below.setCell h hq v
theorem Ab.new (w : World) (n : List UInt8) : Ab (w.alloc (.cells #[.string ⟨n.toArray⟩, .string ⟨#[]⟩] 41)) w.heap.size n [] := ⟨by simp, by simp, by simp, by simp, by simp⟩
theorem aa_app {w w8 wz : World} {va v' : Value} {out : List Atr} {a : Atr} {o : Obj} (hO8 : AtO w8 w.heap.size va out) (hb : Bl w w8)
    (hown' : wz.ownsRow w.heap.size 41 2 v' (out.length + 1) (atC out ++ [.string ⟨a.1.toArray⟩, .string ⟨a.2.toArray⟩])) (hgrow : (w8.alloc o).grownBy wz va.ownBlock) :
    AtO wz w.heap.size v' (out ++ [a]) ∧ Bl w wz := by
  have hlt := World.ownsRow.lt hO8
  refine ⟨?_, ?_⟩
  · unfold AtO; rw [atC_snoc, List.length_append]; exact hown'
  · exact Below.trans (hb.alloc o) (below_gr hgrow (fun k hk => (hlt k hk).1) (by have := Below.size hb; simp; omega))
/-- The four tests of a name's bytes. -/
theorem nch_no {c : UInt8} (h : nch c = false) : wht c = true ∨ (wht c = false ∧ c = 47) ∨ (wht c = false ∧ c ≠ 47 ∧ c = 62) ∨ (wht c = false ∧ c ≠ 47 ∧ c ≠ 62 ∧ c = 61) := by
  have t47 : c.toNat = 47 → c = 47 := fun e => UInt8.toNat_inj.1 e
  have t62 : c.toNat = 62 → c = 62 := fun e => UInt8.toNat_inj.1 e
  have t61 : c.toNat = 61 → c = 61 := fun e => UInt8.toNat_inj.1 e
  have n47 : c.toNat ≠ 47 → c ≠ 47 := fun h e => h (by rw [e]; rfl)
  have n62 : c.toNat ≠ 62 → c ≠ 62 := fun h e => h (by rw [e]; rfl)
  unfold nch at h
  cases hw : wht c
  · rw [hw] at h
    by_cases a : c.toNat = 47
    · exact .inr (.inl ⟨rfl, t47 a⟩)
    · by_cases b : c.toNat = 62
      · exact .inr (.inr (.inl ⟨rfl, n47 a, t62 b⟩))
      · by_cases d : c.toNat = 61
        · exact .inr (.inr (.inr ⟨rfl, n47 a, n62 b, t61 d⟩))
        · simp [a, b, d] at h
  · exact .inl rfl
theorem nch_yes {c : UInt8} (h : nch c = true) : wht c = false ∧ c ≠ 47 ∧ c ≠ 62 ∧ c ≠ 61 := by
  unfold nch at h
  simp only [Bool.and_eq_true, Bool.not_eq_true', decide_eq_true_eq] at h
  obtain ⟨⟨⟨a, b⟩, c'⟩, d⟩ := h
  exact ⟨a, fun e => b (by rw [e]; rfl), fun e => c' (by rw [e]; rfl), fun e => d (by rw [e]; rfl)⟩
theorem vch_yes {c : UInt8} (h : vch c = true) : wht c = false ∧ c ≠ 62 := by
  unfold vch at h
  simp only [Bool.and_eq_true, Bool.not_eq_true', decide_eq_true_eq] at h
  exact ⟨h.1, fun e => h.2 (by rw [e]; rfl)⟩
theorem vch_no {c : UInt8} (h : vch c = false) : wht c = true ∨ (wht c = false ∧ c = 62) := by
  unfold vch at h
  cases hw : wht c
  · rw [hw] at h
    right; refine ⟨rfl, UInt8.toNat_inj.1 ?_⟩
    simpa using h
  · exact .inl rfl
theorem wsl_yes {c : UInt8} (h : wsl c = true) : wht c = true ∨ (wht c = false ∧ c = 47) := by
  unfold wsl at h
  cases hw : wht c
  · rw [hw] at h; exact .inr ⟨rfl, UInt8.toNat_inj.1 (by simpa using h)⟩
  · exact .inl rfl
theorem wsl_no {c : UInt8} (h : wsl c = false) : wht c = false ∧ c ≠ 47 := by
  unfold wsl at h
  simp only [Bool.or_eq_false_iff, decide_eq_false_iff_not] at h
  exact ⟨h.1, fun e => h.2 (by rw [e]; rfl)⟩

theorem isWhite_47 (W : World) : Calls Tryz.prog 27 #[.int .u8 47] W fun e w' => e = .returned (.bool false) ∧ W = w' := isWhite_c 47 W
theorem isWhite_62 (W : World) : Calls Tryz.prog 27 #[.int .u8 62] W fun e w' => e = .returned (.bool false) ∧ W = w' := isWhite_c 62 W
theorem isWhite_61 (W : World) : Calls Tryz.prog 27 #[.int .u8 61] W fun e w' => e = .returned (.bool false) ∧ W = w' := isWhite_c 61 W
/-- The block of a number. -/
def fb (n : Nat) : Code → Option Code
  | .block m c => if m = n then some (.block m c) else fb n c
  | .seq a b => match fb n a with
    | some c => some c
    | none => fb n b
  | .cond _ a b => match fb n a with
    | some c => some c
    | none => fb n b
  | .loop c => fb n c
  | .scope c => fb n c
  | _ => none
/-- The loop of block 2: it passes bytes of a kind. -/
noncomputable def blk2 : Code := (Tryz.f29.body.bind (fb 2)).getD .skip
set_option maxRecDepth 100000 in
set_option maxHeartbeats 4000000 in
theorem lp2 (s : List UInt8) (A E : Nat) (a : Int) (ha : a = (A : Int)) (hs : s.length ≤ 1073741824) (S0 : Scn wsl s A E) (wr : World) (u2 u3 u4 u5 u6 u7 u8 u9 u10 u11 u12 u13 u14 u15 u16 u17 u18 u19 u20 u21 u22 u23 u24 u25 u26 u27 u28 u29 u30 u31 u32 u33 u34 u35 u36 u37 u38 u39 u40 u41 u42 u43 u44 u45 u46 u47 u48 u49 u50 u51 u52 u53 u54 u55 u56 u57 u58 u59 u60 u61 u62 u63 u64 u65 u66 u67 u68 u69 u70 u71 u72 u73 u74 u75 u76 u77 u78 u79 u80 u81 u82 u83 u84 u85 u86 u87 u88 u89 u90 u91 u92 u93 u94 u95 u96 u97 u98 u99 u100 u101 u102 u103 u104 u105 u106 u107 u108 u109 u110 u111 u112 u113 u114 u115 u116 u117 u118 u119 u120 u121 u122 u123 u124 u125 u126 u127 u128 u129 u130 u131 u132 u133 u134 u135 u136 u137 u138 u139 u140 u141 u142 u143 u144 u145 u146 u147 u148 u149 u150 u151 u152 u153 u154 u155 u156 u157 u158 u159 u160 u161 u162 u163 u164 u165 u166 u167 u168 u169 u170 u171 u172 u173 u174 u175 u176 u177 u178 u179 u180 u181 u182 u183 u184 u185 u186 u187 u188 u189 u190 u191 u192 u193 u194 u195 u196 u197 u198 u199 u200 u201 u202 u203 u204 u205 u206 u207 u208 u209 : Value) (K : Act → World → Prop) (Q' : Exit → Act → World → Prop)
    (hK : ∀ v13 v14 v15 v16 v17 v18 v19 v20 v21 v22 v23 v24 v25 v26 v27 v28 v29 v30 : Value, K ⟨(List.toArray (.string ⟨s.toArray⟩ :: .int .i64 (E : Int) :: u2 :: u3 :: u4 :: u5 :: u6 :: u7 :: u8 :: u9 :: u10 :: u11 :: u12 :: v13 :: v14 :: v15 :: v16 :: v17 :: v18 :: v19 :: v20 :: v21 :: v22 :: v23 :: v24 :: v25 :: v26 :: v27 :: v28 :: v29 :: v30 :: u31 :: u32 :: u33 :: u34 :: u35 :: u36 :: u37 :: u38 :: u39 :: u40 :: u41 :: u42 :: u43 :: u44 :: u45 :: u46 :: u47 :: u48 :: u49 :: u50 :: u51 :: u52 :: u53 :: u54 :: u55 :: u56 :: u57 :: u58 :: u59 :: u60 :: u61 :: u62 :: u63 :: u64 :: u65 :: u66 :: u67 :: u68 :: u69 :: u70 :: u71 :: u72 :: u73 :: u74 :: u75 :: u76 :: u77 :: u78 :: u79 :: u80 :: u81 :: u82 :: u83 :: u84 :: u85 :: u86 :: u87 :: u88 :: u89 :: u90 :: u91 :: u92 :: u93 :: u94 :: u95 :: u96 :: u97 :: u98 :: u99 :: u100 :: u101 :: u102 :: u103 :: u104 :: u105 :: u106 :: u107 :: u108 :: u109 :: u110 :: u111 :: u112 :: u113 :: u114 :: u115 :: u116 :: u117 :: u118 :: u119 :: u120 :: u121 :: u122 :: u123 :: u124 :: u125 :: u126 :: u127 :: u128 :: u129 :: u130 :: u131 :: u132 :: u133 :: u134 :: u135 :: u136 :: u137 :: u138 :: u139 :: u140 :: u141 :: u142 :: u143 :: u144 :: u145 :: u146 :: u147 :: u148 :: u149 :: u150 :: u151 :: u152 :: u153 :: u154 :: u155 :: u156 :: u157 :: u158 :: u159 :: u160 :: u161 :: u162 :: u163 :: u164 :: u165 :: u166 :: u167 :: u168 :: u169 :: u170 :: u171 :: u172 :: u173 :: u174 :: u175 :: u176 :: u177 :: u178 :: u179 :: u180 :: u181 :: u182 :: u183 :: u184 :: u185 :: u186 :: u187 :: u188 :: u189 :: u190 :: u191 :: u192 :: u193 :: u194 :: u195 :: u196 :: u197 :: u198 :: u199 :: u200 :: u201 :: u202 :: u203 :: u204 :: u205 :: u206 :: u207 :: u208 :: u209 :: [])), []⟩ wr) :
    Code.wp Tryz.prog blk2 (Exit.then K Q') ⟨(List.toArray (.string ⟨s.toArray⟩ :: .int .i64 a :: u2 :: u3 :: u4 :: u5 :: u6 :: u7 :: u8 :: u9 :: u10 :: u11 :: u12 :: u13 :: u14 :: u15 :: u16 :: u17 :: u18 :: u19 :: u20 :: u21 :: u22 :: u23 :: u24 :: u25 :: u26 :: u27 :: u28 :: u29 :: u30 :: u31 :: u32 :: u33 :: u34 :: u35 :: u36 :: u37 :: u38 :: u39 :: u40 :: u41 :: u42 :: u43 :: u44 :: u45 :: u46 :: u47 :: u48 :: u49 :: u50 :: u51 :: u52 :: u53 :: u54 :: u55 :: u56 :: u57 :: u58 :: u59 :: u60 :: u61 :: u62 :: u63 :: u64 :: u65 :: u66 :: u67 :: u68 :: u69 :: u70 :: u71 :: u72 :: u73 :: u74 :: u75 :: u76 :: u77 :: u78 :: u79 :: u80 :: u81 :: u82 :: u83 :: u84 :: u85 :: u86 :: u87 :: u88 :: u89 :: u90 :: u91 :: u92 :: u93 :: u94 :: u95 :: u96 :: u97 :: u98 :: u99 :: u100 :: u101 :: u102 :: u103 :: u104 :: u105 :: u106 :: u107 :: u108 :: u109 :: u110 :: u111 :: u112 :: u113 :: u114 :: u115 :: u116 :: u117 :: u118 :: u119 :: u120 :: u121 :: u122 :: u123 :: u124 :: u125 :: u126 :: u127 :: u128 :: u129 :: u130 :: u131 :: u132 :: u133 :: u134 :: u135 :: u136 :: u137 :: u138 :: u139 :: u140 :: u141 :: u142 :: u143 :: u144 :: u145 :: u146 :: u147 :: u148 :: u149 :: u150 :: u151 :: u152 :: u153 :: u154 :: u155 :: u156 :: u157 :: u158 :: u159 :: u160 :: u161 :: u162 :: u163 :: u164 :: u165 :: u166 :: u167 :: u168 :: u169 :: u170 :: u171 :: u172 :: u173 :: u174 :: u175 :: u176 :: u177 :: u178 :: u179 :: u180 :: u181 :: u182 :: u183 :: u184 :: u185 :: u186 :: u187 :: u188 :: u189 :: u190 :: u191 :: u192 :: u193 :: u194 :: u195 :: u196 :: u197 :: u198 :: u199 :: u200 :: u201 :: u202 :: u203 :: u204 :: u205 :: u206 :: u207 :: u208 :: u209 :: [])), []⟩ wr := by
  have S := Lib.hid S0
  have hE := S0.ub
  have hA := S0.le
  clear S0
  subst ha
  conv => arg 2; whnf
  go_wp2_with fail
  go_loopw [1] (fun i wq => ∃ k : Nat, A ≤ k ∧ k ≤ E ∧ i = .int .i64 (k : Int) ∧ wr = wq) (fun i _ => s.length - (intOf i).toNat)
  case atStart => exact ⟨A, Nat.le_refl _, hA, rfl, rfl⟩
  case round =>
    obtain ⟨k, hk1, hk2, rfl, rfl⟩ := hrel
    by_cases hlt : k < E
    · have hk3 : k < s.length := by omega
      rcases wsl_yes (S.out.inn k hk3 hk1 hlt) with y | ⟨y, z⟩
      · have WC := Lib.hid (fun W => isWhite_c s[k] W)
        rw [y] at WC
        clear y
        go_wp2_with (go_at_call 27; (with_reducible refine (WC.out _).mono ?_); rintro e w7 ⟨rfl, rfl⟩)
        go_roundw
        case rel => exact ⟨k + 1, by omega, by omega, by go_num, by trivial⟩
        case measure => simp [intOf]; omega
      · obtain ⟨f47, g47⟩ : ((s[k].toNat : Int) == 47) = true ∧ ((s[k].toNat : Int) != 47) = false := c_eq s[k] 47 (by decide) z
        have WC := Lib.hid (fun W => isWhite_47 W)
        clear y
        go_wp2_with (go_at_call 27; (with_reducible refine (WC.out _).mono ?_); rintro e w7 ⟨rfl, rfl⟩)
        go_roundw
        case rel => exact ⟨k + 1, by omega, by omega, by go_num, by trivial⟩
        case measure => simp [intOf]; omega
    · obtain rfl : k = E := by omega
      clear hlt
      by_cases hk3 : k < s.length
      · rcases wsl_no (S.out.out hk3) with ⟨y, z⟩
        · obtain ⟨f47, g47⟩ : ((s[k].toNat : Int) == 47) = false ∧ ((s[k].toNat : Int) != 47) = true := c_ne s[k] 47 (by decide) z
          have WC := Lib.hid (fun W => isWhite_c s[k] W)
          rw [y] at WC
          clear y
          go_wp2_with (go_at_call 27; (with_reducible refine (WC.out _).mono ?_); rintro e w7 ⟨rfl, rfl⟩)
          exact hK _ _ _ _ _ _ _ _ _ _ _ _ _ _ _ _ _ _
      · go_wp2
        exact hK _ _ _ _ _ _ _ _ _ _ _ _ _ _ _ _ _ _
/-- The loop of block 4: it passes bytes of a kind. -/
noncomputable def blk4 : Code := (Tryz.f29.body.bind (fb 4)).getD .skip
set_option maxRecDepth 100000 in
set_option maxHeartbeats 4000000 in
theorem lp4 (s : List UInt8) (A E : Nat) (a : Int) (ha : a = (A : Int)) (hs : s.length ≤ 1073741824) (S0 : Scn nch s A E) (wr : World) (u2 u3 u4 u5 u6 u7 u8 u9 u10 u11 u12 u13 u14 u15 u16 u17 u18 u19 u20 u21 u22 u23 u24 u25 u26 u27 u28 u29 u30 u31 u32 u33 u34 u35 u36 u37 u38 u39 u40 u41 u42 u43 u44 u45 u46 u47 u48 u49 u50 u51 u52 u53 u54 u55 u56 u57 u58 u59 u60 u61 u62 u63 u64 u65 u66 u67 u68 u69 u70 u71 u72 u73 u74 u75 u76 u77 u78 u79 u80 u81 u82 u83 u84 u85 u86 u87 u88 u89 u90 u91 u92 u93 u94 u95 u96 u97 u98 u99 u100 u101 u102 u103 u104 u105 u106 u107 u108 u109 u110 u111 u112 u113 u114 u115 u116 u117 u118 u119 u120 u121 u122 u123 u124 u125 u126 u127 u128 u129 u130 u131 u132 u133 u134 u135 u136 u137 u138 u139 u140 u141 u142 u143 u144 u145 u146 u147 u148 u149 u150 u151 u152 u153 u154 u155 u156 u157 u158 u159 u160 u161 u162 u163 u164 u165 u166 u167 u168 u169 u170 u171 u172 u173 u174 u175 u176 u177 u178 u179 u180 u181 u182 u183 u184 u185 u186 u187 u188 u189 u190 u191 u192 u193 u194 u195 u196 u197 u198 u199 u200 u201 u202 u203 u204 u205 u206 u207 u208 u209 : Value) (K : Act → World → Prop) (Q' : Exit → Act → World → Prop)
    (hK : ∀ v45 v46 v47 v48 v49 v50 v51 v52 v53 v54 v55 v56 v57 v58 v59 v60 v61 v62 v63 v64 v65 v66 v67 v68 v69 v70 v71 v72 v73 v74 v75 : Value, K ⟨(List.toArray (.string ⟨s.toArray⟩ :: .int .i64 (E : Int) :: u2 :: u3 :: u4 :: u5 :: u6 :: u7 :: u8 :: u9 :: u10 :: u11 :: u12 :: u13 :: u14 :: u15 :: u16 :: u17 :: u18 :: u19 :: u20 :: u21 :: u22 :: u23 :: u24 :: u25 :: u26 :: u27 :: u28 :: u29 :: u30 :: u31 :: u32 :: u33 :: u34 :: u35 :: u36 :: u37 :: u38 :: u39 :: u40 :: u41 :: u42 :: u43 :: u44 :: v45 :: v46 :: v47 :: v48 :: v49 :: v50 :: v51 :: v52 :: v53 :: v54 :: v55 :: v56 :: v57 :: v58 :: v59 :: v60 :: v61 :: v62 :: v63 :: v64 :: v65 :: v66 :: v67 :: v68 :: v69 :: v70 :: v71 :: v72 :: v73 :: v74 :: v75 :: u76 :: u77 :: u78 :: u79 :: u80 :: u81 :: u82 :: u83 :: u84 :: u85 :: u86 :: u87 :: u88 :: u89 :: u90 :: u91 :: u92 :: u93 :: u94 :: u95 :: u96 :: u97 :: u98 :: u99 :: u100 :: u101 :: u102 :: u103 :: u104 :: u105 :: u106 :: u107 :: u108 :: u109 :: u110 :: u111 :: u112 :: u113 :: u114 :: u115 :: u116 :: u117 :: u118 :: u119 :: u120 :: u121 :: u122 :: u123 :: u124 :: u125 :: u126 :: u127 :: u128 :: u129 :: u130 :: u131 :: u132 :: u133 :: u134 :: u135 :: u136 :: u137 :: u138 :: u139 :: u140 :: u141 :: u142 :: u143 :: u144 :: u145 :: u146 :: u147 :: u148 :: u149 :: u150 :: u151 :: u152 :: u153 :: u154 :: u155 :: u156 :: u157 :: u158 :: u159 :: u160 :: u161 :: u162 :: u163 :: u164 :: u165 :: u166 :: u167 :: u168 :: u169 :: u170 :: u171 :: u172 :: u173 :: u174 :: u175 :: u176 :: u177 :: u178 :: u179 :: u180 :: u181 :: u182 :: u183 :: u184 :: u185 :: u186 :: u187 :: u188 :: u189 :: u190 :: u191 :: u192 :: u193 :: u194 :: u195 :: u196 :: u197 :: u198 :: u199 :: u200 :: u201 :: u202 :: u203 :: u204 :: u205 :: u206 :: u207 :: u208 :: u209 :: [])), []⟩ wr) :
    Code.wp Tryz.prog blk4 (Exit.then K Q') ⟨(List.toArray (.string ⟨s.toArray⟩ :: .int .i64 a :: u2 :: u3 :: u4 :: u5 :: u6 :: u7 :: u8 :: u9 :: u10 :: u11 :: u12 :: u13 :: u14 :: u15 :: u16 :: u17 :: u18 :: u19 :: u20 :: u21 :: u22 :: u23 :: u24 :: u25 :: u26 :: u27 :: u28 :: u29 :: u30 :: u31 :: u32 :: u33 :: u34 :: u35 :: u36 :: u37 :: u38 :: u39 :: u40 :: u41 :: u42 :: u43 :: u44 :: u45 :: u46 :: u47 :: u48 :: u49 :: u50 :: u51 :: u52 :: u53 :: u54 :: u55 :: u56 :: u57 :: u58 :: u59 :: u60 :: u61 :: u62 :: u63 :: u64 :: u65 :: u66 :: u67 :: u68 :: u69 :: u70 :: u71 :: u72 :: u73 :: u74 :: u75 :: u76 :: u77 :: u78 :: u79 :: u80 :: u81 :: u82 :: u83 :: u84 :: u85 :: u86 :: u87 :: u88 :: u89 :: u90 :: u91 :: u92 :: u93 :: u94 :: u95 :: u96 :: u97 :: u98 :: u99 :: u100 :: u101 :: u102 :: u103 :: u104 :: u105 :: u106 :: u107 :: u108 :: u109 :: u110 :: u111 :: u112 :: u113 :: u114 :: u115 :: u116 :: u117 :: u118 :: u119 :: u120 :: u121 :: u122 :: u123 :: u124 :: u125 :: u126 :: u127 :: u128 :: u129 :: u130 :: u131 :: u132 :: u133 :: u134 :: u135 :: u136 :: u137 :: u138 :: u139 :: u140 :: u141 :: u142 :: u143 :: u144 :: u145 :: u146 :: u147 :: u148 :: u149 :: u150 :: u151 :: u152 :: u153 :: u154 :: u155 :: u156 :: u157 :: u158 :: u159 :: u160 :: u161 :: u162 :: u163 :: u164 :: u165 :: u166 :: u167 :: u168 :: u169 :: u170 :: u171 :: u172 :: u173 :: u174 :: u175 :: u176 :: u177 :: u178 :: u179 :: u180 :: u181 :: u182 :: u183 :: u184 :: u185 :: u186 :: u187 :: u188 :: u189 :: u190 :: u191 :: u192 :: u193 :: u194 :: u195 :: u196 :: u197 :: u198 :: u199 :: u200 :: u201 :: u202 :: u203 :: u204 :: u205 :: u206 :: u207 :: u208 :: u209 :: [])), []⟩ wr := by
  have S := Lib.hid S0
  have hE := S0.ub
  have hA := S0.le
  clear S0
  subst ha
  conv => arg 2; whnf
  go_wp2_with fail
  go_loopw [1] (fun i wq => ∃ k : Nat, A ≤ k ∧ k ≤ E ∧ i = .int .i64 (k : Int) ∧ wr = wq) (fun i _ => s.length - (intOf i).toNat)
  case atStart => exact ⟨A, Nat.le_refl _, hA, rfl, rfl⟩
  case round =>
    obtain ⟨k, hk1, hk2, rfl, rfl⟩ := hrel
    by_cases hlt : k < E
    · have hk3 : k < s.length := by omega
      rcases nch_yes (S.out.inn k hk3 hk1 hlt) with ⟨y, z1, z2, z3⟩
      · obtain ⟨f47, g47⟩ : ((s[k].toNat : Int) == 47) = false ∧ ((s[k].toNat : Int) != 47) = true := c_ne s[k] 47 (by decide) z1
        obtain ⟨f62, g62⟩ : ((s[k].toNat : Int) == 62) = false ∧ ((s[k].toNat : Int) != 62) = true := c_ne s[k] 62 (by decide) z2
        obtain ⟨f61, g61⟩ : ((s[k].toNat : Int) == 61) = false ∧ ((s[k].toNat : Int) != 61) = true := c_ne s[k] 61 (by decide) z3
        have WC := Lib.hid (fun W => isWhite_c s[k] W)
        rw [y] at WC
        clear y
        go_wp2_with (go_at_call 27; (with_reducible refine (WC.out _).mono ?_); rintro e w7 ⟨rfl, rfl⟩)
        all_goals first
          | (exfalso; simp_all; done)
          | (go_roundw
             case rel => exact ⟨k + 1, by omega, by omega, by go_num, by trivial⟩
             case measure => simp [intOf]; omega)
    · obtain rfl : k = E := by omega
      clear hlt
      by_cases hk3 : k < s.length
      · rcases nch_no (S.out.out hk3) with y | ⟨y, z⟩ | ⟨y, z1, z⟩ | ⟨y, z1, z2, z⟩
        · have WC := Lib.hid (fun W => isWhite_c s[k] W)
          rw [y] at WC
          clear y
          go_wp2_with (go_at_call 27; (with_reducible refine (WC.out _).mono ?_); rintro e w7 ⟨rfl, rfl⟩)
          exact hK _ _ _ _ _ _ _ _ _ _ _ _ _ _ _ _ _ _ _ _ _ _ _ _ _ _ _ _ _ _ _
        · obtain ⟨f47, g47⟩ : ((s[k].toNat : Int) == 47) = true ∧ ((s[k].toNat : Int) != 47) = false := c_eq s[k] 47 (by decide) z
          have WC := Lib.hid (fun W => isWhite_47 W)
          clear y
          go_wp2_with (go_at_call 27; (with_reducible refine (WC.out _).mono ?_); rintro e w7 ⟨rfl, rfl⟩)
          exact hK _ _ _ _ _ _ _ _ _ _ _ _ _ _ _ _ _ _ _ _ _ _ _ _ _ _ _ _ _ _ _
        · obtain ⟨f62, g62⟩ : ((s[k].toNat : Int) == 62) = true ∧ ((s[k].toNat : Int) != 62) = false := c_eq s[k] 62 (by decide) z
          obtain ⟨f47, g47⟩ : ((s[k].toNat : Int) == 47) = false ∧ ((s[k].toNat : Int) != 47) = true := c_ne s[k] 47 (by decide) z1
          have WC := Lib.hid (fun W => isWhite_62 W)
          clear y
          go_wp2_with (go_at_call 27; (with_reducible refine (WC.out _).mono ?_); rintro e w7 ⟨rfl, rfl⟩)
          exact hK _ _ _ _ _ _ _ _ _ _ _ _ _ _ _ _ _ _ _ _ _ _ _ _ _ _ _ _ _ _ _
        · obtain ⟨f61, g61⟩ : ((s[k].toNat : Int) == 61) = true ∧ ((s[k].toNat : Int) != 61) = false := c_eq s[k] 61 (by decide) z
          obtain ⟨f47, g47⟩ : ((s[k].toNat : Int) == 47) = false ∧ ((s[k].toNat : Int) != 47) = true := c_ne s[k] 47 (by decide) z1
          obtain ⟨f62, g62⟩ : ((s[k].toNat : Int) == 62) = false ∧ ((s[k].toNat : Int) != 62) = true := c_ne s[k] 62 (by decide) z2
          have WC := Lib.hid (fun W => isWhite_61 W)
          clear y
          go_wp2_with (go_at_call 27; (with_reducible refine (WC.out _).mono ?_); rintro e w7 ⟨rfl, rfl⟩)
          exact hK _ _ _ _ _ _ _ _ _ _ _ _ _ _ _ _ _ _ _ _ _ _ _ _ _ _ _ _ _ _ _
      · go_wp2
        exact hK _ _ _ _ _ _ _ _ _ _ _ _ _ _ _ _ _ _ _ _ _ _ _ _ _ _ _ _ _ _ _
/-- The loop of block 6: it passes bytes of a kind. -/
noncomputable def blk6 : Code := (Tryz.f29.body.bind (fb 6)).getD .skip
set_option maxRecDepth 100000 in
set_option maxHeartbeats 4000000 in
theorem lp6 (s : List UInt8) (A E : Nat) (a : Int) (ha : a = (A : Int)) (hs : s.length ≤ 1073741824) (S0 : Scn wht s A E) (wr : World) (u2 u3 u4 u5 u6 u7 u8 u9 u10 u11 u12 u13 u14 u15 u16 u17 u18 u19 u20 u21 u22 u23 u24 u25 u26 u27 u28 u29 u30 u31 u32 u33 u34 u35 u36 u37 u38 u39 u40 u41 u42 u43 u44 u45 u46 u47 u48 u49 u50 u51 u52 u53 u54 u55 u56 u57 u58 u59 u60 u61 u62 u63 u64 u65 u66 u67 u68 u69 u70 u71 u72 u73 u74 u75 u76 u77 u78 u79 u80 u81 u82 u83 u84 u85 u86 u87 u88 u89 u90 u91 u92 u93 u94 u95 u96 u97 u98 u99 u100 u101 u102 u103 u104 u105 u106 u107 u108 u109 u110 u111 u112 u113 u114 u115 u116 u117 u118 u119 u120 u121 u122 u123 u124 u125 u126 u127 u128 u129 u130 u131 u132 u133 u134 u135 u136 u137 u138 u139 u140 u141 u142 u143 u144 u145 u146 u147 u148 u149 u150 u151 u152 u153 u154 u155 u156 u157 u158 u159 u160 u161 u162 u163 u164 u165 u166 u167 u168 u169 u170 u171 u172 u173 u174 u175 u176 u177 u178 u179 u180 u181 u182 u183 u184 u185 u186 u187 u188 u189 u190 u191 u192 u193 u194 u195 u196 u197 u198 u199 u200 u201 u202 u203 u204 u205 u206 u207 u208 u209 : Value) (K : Act → World → Prop) (Q' : Exit → Act → World → Prop)
    (hK : ∀ v82 v83 v84 v85 v86 v87 v88 v89 v90 v91 v92 v93 : Value, K ⟨(List.toArray (.string ⟨s.toArray⟩ :: .int .i64 (E : Int) :: u2 :: u3 :: u4 :: u5 :: u6 :: u7 :: u8 :: u9 :: u10 :: u11 :: u12 :: u13 :: u14 :: u15 :: u16 :: u17 :: u18 :: u19 :: u20 :: u21 :: u22 :: u23 :: u24 :: u25 :: u26 :: u27 :: u28 :: u29 :: u30 :: u31 :: u32 :: u33 :: u34 :: u35 :: u36 :: u37 :: u38 :: u39 :: u40 :: u41 :: u42 :: u43 :: u44 :: u45 :: u46 :: u47 :: u48 :: u49 :: u50 :: u51 :: u52 :: u53 :: u54 :: u55 :: u56 :: u57 :: u58 :: u59 :: u60 :: u61 :: u62 :: u63 :: u64 :: u65 :: u66 :: u67 :: u68 :: u69 :: u70 :: u71 :: u72 :: u73 :: u74 :: u75 :: u76 :: u77 :: u78 :: u79 :: u80 :: u81 :: v82 :: v83 :: v84 :: v85 :: v86 :: v87 :: v88 :: v89 :: v90 :: v91 :: v92 :: v93 :: u94 :: u95 :: u96 :: u97 :: u98 :: u99 :: u100 :: u101 :: u102 :: u103 :: u104 :: u105 :: u106 :: u107 :: u108 :: u109 :: u110 :: u111 :: u112 :: u113 :: u114 :: u115 :: u116 :: u117 :: u118 :: u119 :: u120 :: u121 :: u122 :: u123 :: u124 :: u125 :: u126 :: u127 :: u128 :: u129 :: u130 :: u131 :: u132 :: u133 :: u134 :: u135 :: u136 :: u137 :: u138 :: u139 :: u140 :: u141 :: u142 :: u143 :: u144 :: u145 :: u146 :: u147 :: u148 :: u149 :: u150 :: u151 :: u152 :: u153 :: u154 :: u155 :: u156 :: u157 :: u158 :: u159 :: u160 :: u161 :: u162 :: u163 :: u164 :: u165 :: u166 :: u167 :: u168 :: u169 :: u170 :: u171 :: u172 :: u173 :: u174 :: u175 :: u176 :: u177 :: u178 :: u179 :: u180 :: u181 :: u182 :: u183 :: u184 :: u185 :: u186 :: u187 :: u188 :: u189 :: u190 :: u191 :: u192 :: u193 :: u194 :: u195 :: u196 :: u197 :: u198 :: u199 :: u200 :: u201 :: u202 :: u203 :: u204 :: u205 :: u206 :: u207 :: u208 :: u209 :: [])), []⟩ wr) :
    Code.wp Tryz.prog blk6 (Exit.then K Q') ⟨(List.toArray (.string ⟨s.toArray⟩ :: .int .i64 a :: u2 :: u3 :: u4 :: u5 :: u6 :: u7 :: u8 :: u9 :: u10 :: u11 :: u12 :: u13 :: u14 :: u15 :: u16 :: u17 :: u18 :: u19 :: u20 :: u21 :: u22 :: u23 :: u24 :: u25 :: u26 :: u27 :: u28 :: u29 :: u30 :: u31 :: u32 :: u33 :: u34 :: u35 :: u36 :: u37 :: u38 :: u39 :: u40 :: u41 :: u42 :: u43 :: u44 :: u45 :: u46 :: u47 :: u48 :: u49 :: u50 :: u51 :: u52 :: u53 :: u54 :: u55 :: u56 :: u57 :: u58 :: u59 :: u60 :: u61 :: u62 :: u63 :: u64 :: u65 :: u66 :: u67 :: u68 :: u69 :: u70 :: u71 :: u72 :: u73 :: u74 :: u75 :: u76 :: u77 :: u78 :: u79 :: u80 :: u81 :: u82 :: u83 :: u84 :: u85 :: u86 :: u87 :: u88 :: u89 :: u90 :: u91 :: u92 :: u93 :: u94 :: u95 :: u96 :: u97 :: u98 :: u99 :: u100 :: u101 :: u102 :: u103 :: u104 :: u105 :: u106 :: u107 :: u108 :: u109 :: u110 :: u111 :: u112 :: u113 :: u114 :: u115 :: u116 :: u117 :: u118 :: u119 :: u120 :: u121 :: u122 :: u123 :: u124 :: u125 :: u126 :: u127 :: u128 :: u129 :: u130 :: u131 :: u132 :: u133 :: u134 :: u135 :: u136 :: u137 :: u138 :: u139 :: u140 :: u141 :: u142 :: u143 :: u144 :: u145 :: u146 :: u147 :: u148 :: u149 :: u150 :: u151 :: u152 :: u153 :: u154 :: u155 :: u156 :: u157 :: u158 :: u159 :: u160 :: u161 :: u162 :: u163 :: u164 :: u165 :: u166 :: u167 :: u168 :: u169 :: u170 :: u171 :: u172 :: u173 :: u174 :: u175 :: u176 :: u177 :: u178 :: u179 :: u180 :: u181 :: u182 :: u183 :: u184 :: u185 :: u186 :: u187 :: u188 :: u189 :: u190 :: u191 :: u192 :: u193 :: u194 :: u195 :: u196 :: u197 :: u198 :: u199 :: u200 :: u201 :: u202 :: u203 :: u204 :: u205 :: u206 :: u207 :: u208 :: u209 :: [])), []⟩ wr := by
  have S := Lib.hid S0
  have hE := S0.ub
  have hA := S0.le
  clear S0
  subst ha
  conv => arg 2; whnf
  go_wp2_with fail
  go_loopw [1] (fun i wq => ∃ k : Nat, A ≤ k ∧ k ≤ E ∧ i = .int .i64 (k : Int) ∧ wr = wq) (fun i _ => s.length - (intOf i).toNat)
  case atStart => exact ⟨A, Nat.le_refl _, hA, rfl, rfl⟩
  case round =>
    obtain ⟨k, hk1, hk2, rfl, rfl⟩ := hrel
    by_cases hlt : k < E
    · have hk3 : k < s.length := by omega
      rcases  (S.out.inn k hk3 hk1 hlt) with y
      · have WC := Lib.hid (fun W => isWhite_c s[k] W)
        rw [y] at WC
        clear y
        go_wp2_with (go_at_call 27; (with_reducible refine (WC.out _).mono ?_); rintro e w7 ⟨rfl, rfl⟩)
        go_roundw
        case rel => exact ⟨k + 1, by omega, by omega, by go_num, by trivial⟩
        case measure => simp [intOf]; omega
    · obtain rfl : k = E := by omega
      clear hlt
      by_cases hk3 : k < s.length
      · rcases  (S.out.out hk3) with y
        · have WC := Lib.hid (fun W => isWhite_c s[k] W)
          rw [y] at WC
          clear y
          go_wp2_with (go_at_call 27; (with_reducible refine (WC.out _).mono ?_); rintro e w7 ⟨rfl, rfl⟩)
          exact hK _ _ _ _ _ _ _ _ _ _ _ _
      · go_wp2
        exact hK _ _ _ _ _ _ _ _ _ _ _ _
/-- The loop of block 8: it passes bytes of a kind. -/
noncomputable def blk8 : Code := (Tryz.f29.body.bind (fb 8)).getD .skip
set_option maxRecDepth 100000 in
set_option maxHeartbeats 4000000 in
theorem lp8 (s : List UInt8) (A E : Nat) (a : Int) (ha : a = (A : Int)) (hs : s.length ≤ 1073741824) (S0 : Scn wht s A E) (wr : World) (u2 u3 u4 u5 u6 u7 u8 u9 u10 u11 u12 u13 u14 u15 u16 u17 u18 u19 u20 u21 u22 u23 u24 u25 u26 u27 u28 u29 u30 u31 u32 u33 u34 u35 u36 u37 u38 u39 u40 u41 u42 u43 u44 u45 u46 u47 u48 u49 u50 u51 u52 u53 u54 u55 u56 u57 u58 u59 u60 u61 u62 u63 u64 u65 u66 u67 u68 u69 u70 u71 u72 u73 u74 u75 u76 u77 u78 u79 u80 u81 u82 u83 u84 u85 u86 u87 u88 u89 u90 u91 u92 u93 u94 u95 u96 u97 u98 u99 u100 u101 u102 u103 u104 u105 u106 u107 u108 u109 u110 u111 u112 u113 u114 u115 u116 u117 u118 u119 u120 u121 u122 u123 u124 u125 u126 u127 u128 u129 u130 u131 u132 u133 u134 u135 u136 u137 u138 u139 u140 u141 u142 u143 u144 u145 u146 u147 u148 u149 u150 u151 u152 u153 u154 u155 u156 u157 u158 u159 u160 u161 u162 u163 u164 u165 u166 u167 u168 u169 u170 u171 u172 u173 u174 u175 u176 u177 u178 u179 u180 u181 u182 u183 u184 u185 u186 u187 u188 u189 u190 u191 u192 u193 u194 u195 u196 u197 u198 u199 u200 u201 u202 u203 u204 u205 u206 u207 u208 u209 : Value) (K : Act → World → Prop) (Q' : Exit → Act → World → Prop)
    (hK : ∀ v106 v107 v108 v109 v110 v111 v112 v113 v114 v115 v116 v117 : Value, K ⟨(List.toArray (.string ⟨s.toArray⟩ :: .int .i64 (E : Int) :: u2 :: u3 :: u4 :: u5 :: u6 :: u7 :: u8 :: u9 :: u10 :: u11 :: u12 :: u13 :: u14 :: u15 :: u16 :: u17 :: u18 :: u19 :: u20 :: u21 :: u22 :: u23 :: u24 :: u25 :: u26 :: u27 :: u28 :: u29 :: u30 :: u31 :: u32 :: u33 :: u34 :: u35 :: u36 :: u37 :: u38 :: u39 :: u40 :: u41 :: u42 :: u43 :: u44 :: u45 :: u46 :: u47 :: u48 :: u49 :: u50 :: u51 :: u52 :: u53 :: u54 :: u55 :: u56 :: u57 :: u58 :: u59 :: u60 :: u61 :: u62 :: u63 :: u64 :: u65 :: u66 :: u67 :: u68 :: u69 :: u70 :: u71 :: u72 :: u73 :: u74 :: u75 :: u76 :: u77 :: u78 :: u79 :: u80 :: u81 :: u82 :: u83 :: u84 :: u85 :: u86 :: u87 :: u88 :: u89 :: u90 :: u91 :: u92 :: u93 :: u94 :: u95 :: u96 :: u97 :: u98 :: u99 :: u100 :: u101 :: u102 :: u103 :: u104 :: u105 :: v106 :: v107 :: v108 :: v109 :: v110 :: v111 :: v112 :: v113 :: v114 :: v115 :: v116 :: v117 :: u118 :: u119 :: u120 :: u121 :: u122 :: u123 :: u124 :: u125 :: u126 :: u127 :: u128 :: u129 :: u130 :: u131 :: u132 :: u133 :: u134 :: u135 :: u136 :: u137 :: u138 :: u139 :: u140 :: u141 :: u142 :: u143 :: u144 :: u145 :: u146 :: u147 :: u148 :: u149 :: u150 :: u151 :: u152 :: u153 :: u154 :: u155 :: u156 :: u157 :: u158 :: u159 :: u160 :: u161 :: u162 :: u163 :: u164 :: u165 :: u166 :: u167 :: u168 :: u169 :: u170 :: u171 :: u172 :: u173 :: u174 :: u175 :: u176 :: u177 :: u178 :: u179 :: u180 :: u181 :: u182 :: u183 :: u184 :: u185 :: u186 :: u187 :: u188 :: u189 :: u190 :: u191 :: u192 :: u193 :: u194 :: u195 :: u196 :: u197 :: u198 :: u199 :: u200 :: u201 :: u202 :: u203 :: u204 :: u205 :: u206 :: u207 :: u208 :: u209 :: [])), []⟩ wr) :
    Code.wp Tryz.prog blk8 (Exit.then K Q') ⟨(List.toArray (.string ⟨s.toArray⟩ :: .int .i64 a :: u2 :: u3 :: u4 :: u5 :: u6 :: u7 :: u8 :: u9 :: u10 :: u11 :: u12 :: u13 :: u14 :: u15 :: u16 :: u17 :: u18 :: u19 :: u20 :: u21 :: u22 :: u23 :: u24 :: u25 :: u26 :: u27 :: u28 :: u29 :: u30 :: u31 :: u32 :: u33 :: u34 :: u35 :: u36 :: u37 :: u38 :: u39 :: u40 :: u41 :: u42 :: u43 :: u44 :: u45 :: u46 :: u47 :: u48 :: u49 :: u50 :: u51 :: u52 :: u53 :: u54 :: u55 :: u56 :: u57 :: u58 :: u59 :: u60 :: u61 :: u62 :: u63 :: u64 :: u65 :: u66 :: u67 :: u68 :: u69 :: u70 :: u71 :: u72 :: u73 :: u74 :: u75 :: u76 :: u77 :: u78 :: u79 :: u80 :: u81 :: u82 :: u83 :: u84 :: u85 :: u86 :: u87 :: u88 :: u89 :: u90 :: u91 :: u92 :: u93 :: u94 :: u95 :: u96 :: u97 :: u98 :: u99 :: u100 :: u101 :: u102 :: u103 :: u104 :: u105 :: u106 :: u107 :: u108 :: u109 :: u110 :: u111 :: u112 :: u113 :: u114 :: u115 :: u116 :: u117 :: u118 :: u119 :: u120 :: u121 :: u122 :: u123 :: u124 :: u125 :: u126 :: u127 :: u128 :: u129 :: u130 :: u131 :: u132 :: u133 :: u134 :: u135 :: u136 :: u137 :: u138 :: u139 :: u140 :: u141 :: u142 :: u143 :: u144 :: u145 :: u146 :: u147 :: u148 :: u149 :: u150 :: u151 :: u152 :: u153 :: u154 :: u155 :: u156 :: u157 :: u158 :: u159 :: u160 :: u161 :: u162 :: u163 :: u164 :: u165 :: u166 :: u167 :: u168 :: u169 :: u170 :: u171 :: u172 :: u173 :: u174 :: u175 :: u176 :: u177 :: u178 :: u179 :: u180 :: u181 :: u182 :: u183 :: u184 :: u185 :: u186 :: u187 :: u188 :: u189 :: u190 :: u191 :: u192 :: u193 :: u194 :: u195 :: u196 :: u197 :: u198 :: u199 :: u200 :: u201 :: u202 :: u203 :: u204 :: u205 :: u206 :: u207 :: u208 :: u209 :: [])), []⟩ wr := by
  have S := Lib.hid S0
  have hE := S0.ub
  have hA := S0.le
  clear S0
  subst ha
  conv => arg 2; whnf
  go_wp2_with fail
  go_loopw [1] (fun i wq => ∃ k : Nat, A ≤ k ∧ k ≤ E ∧ i = .int .i64 (k : Int) ∧ wr = wq) (fun i _ => s.length - (intOf i).toNat)
  case atStart => exact ⟨A, Nat.le_refl _, hA, rfl, rfl⟩
  case round =>
    obtain ⟨k, hk1, hk2, rfl, rfl⟩ := hrel
    by_cases hlt : k < E
    · have hk3 : k < s.length := by omega
      rcases  (S.out.inn k hk3 hk1 hlt) with y
      · have WC := Lib.hid (fun W => isWhite_c s[k] W)
        rw [y] at WC
        clear y
        go_wp2_with (go_at_call 27; (with_reducible refine (WC.out _).mono ?_); rintro e w7 ⟨rfl, rfl⟩)
        go_roundw
        case rel => exact ⟨k + 1, by omega, by omega, by go_num, by trivial⟩
        case measure => simp [intOf]; omega
    · obtain rfl : k = E := by omega
      clear hlt
      by_cases hk3 : k < s.length
      · rcases  (S.out.out hk3) with y
        · have WC := Lib.hid (fun W => isWhite_c s[k] W)
          rw [y] at WC
          clear y
          go_wp2_with (go_at_call 27; (with_reducible refine (WC.out _).mono ?_); rintro e w7 ⟨rfl, rfl⟩)
          exact hK _ _ _ _ _ _ _ _ _ _ _ _
      · go_wp2
        exact hK _ _ _ _ _ _ _ _ _ _ _ _
/-- The loop of block 10: it passes bytes of a kind. -/
noncomputable def blk10 : Code := (Tryz.f29.body.bind (fb 10)).getD .skip
set_option maxRecDepth 100000 in
set_option maxHeartbeats 4000000 in
theorem lp10 (s : List UInt8) (A E : Nat) (a : Int) (ha : a = (A : Int)) (hs : s.length ≤ 1073741824) (S0 : Scn vch s A E) (wr : World) (u2 u3 u4 u5 u6 u7 u8 u9 u10 u11 u12 u13 u14 u15 u16 u17 u18 u19 u20 u21 u22 u23 u24 u25 u26 u27 u28 u29 u30 u31 u32 u33 u34 u35 u36 u37 u38 u39 u40 u41 u42 u43 u44 u45 u46 u47 u48 u49 u50 u51 u52 u53 u54 u55 u56 u57 u58 u59 u60 u61 u62 u63 u64 u65 u66 u67 u68 u69 u70 u71 u72 u73 u74 u75 u76 u77 u78 u79 u80 u81 u82 u83 u84 u85 u86 u87 u88 u89 u90 u91 u92 u93 u94 u95 u96 u97 u98 u99 u100 u101 u102 u103 u104 u105 u106 u107 u108 u109 u110 u111 u112 u113 u114 u115 u116 u117 u118 u119 u120 u121 u122 u123 u124 u125 u126 u127 u128 u129 u130 u131 u132 u133 u134 u135 u136 u137 u138 u139 u140 u141 u142 u143 u144 u145 u146 u147 u148 u149 u150 u151 u152 u153 u154 u155 u156 u157 u158 u159 u160 u161 u162 u163 u164 u165 u166 u167 u168 u169 u170 u171 u172 u173 u174 u175 u176 u177 u178 u179 u180 u181 u182 u183 u184 u185 u186 u187 u188 u189 u190 u191 u192 u193 u194 u195 u196 u197 u198 u199 u200 u201 u202 u203 u204 u205 u206 u207 u208 u209 : Value) (K : Act → World → Prop) (Q' : Exit → Act → World → Prop)
    (hK : ∀ v153 v154 v155 v156 v157 v158 v159 v160 v161 v162 v163 v164 v165 v166 v167 v168 v169 v170 v171 : Value, K ⟨(List.toArray (.string ⟨s.toArray⟩ :: .int .i64 (E : Int) :: u2 :: u3 :: u4 :: u5 :: u6 :: u7 :: u8 :: u9 :: u10 :: u11 :: u12 :: u13 :: u14 :: u15 :: u16 :: u17 :: u18 :: u19 :: u20 :: u21 :: u22 :: u23 :: u24 :: u25 :: u26 :: u27 :: u28 :: u29 :: u30 :: u31 :: u32 :: u33 :: u34 :: u35 :: u36 :: u37 :: u38 :: u39 :: u40 :: u41 :: u42 :: u43 :: u44 :: u45 :: u46 :: u47 :: u48 :: u49 :: u50 :: u51 :: u52 :: u53 :: u54 :: u55 :: u56 :: u57 :: u58 :: u59 :: u60 :: u61 :: u62 :: u63 :: u64 :: u65 :: u66 :: u67 :: u68 :: u69 :: u70 :: u71 :: u72 :: u73 :: u74 :: u75 :: u76 :: u77 :: u78 :: u79 :: u80 :: u81 :: u82 :: u83 :: u84 :: u85 :: u86 :: u87 :: u88 :: u89 :: u90 :: u91 :: u92 :: u93 :: u94 :: u95 :: u96 :: u97 :: u98 :: u99 :: u100 :: u101 :: u102 :: u103 :: u104 :: u105 :: u106 :: u107 :: u108 :: u109 :: u110 :: u111 :: u112 :: u113 :: u114 :: u115 :: u116 :: u117 :: u118 :: u119 :: u120 :: u121 :: u122 :: u123 :: u124 :: u125 :: u126 :: u127 :: u128 :: u129 :: u130 :: u131 :: u132 :: u133 :: u134 :: u135 :: u136 :: u137 :: u138 :: u139 :: u140 :: u141 :: u142 :: u143 :: u144 :: u145 :: u146 :: u147 :: u148 :: u149 :: u150 :: u151 :: u152 :: v153 :: v154 :: v155 :: v156 :: v157 :: v158 :: v159 :: v160 :: v161 :: v162 :: v163 :: v164 :: v165 :: v166 :: v167 :: v168 :: v169 :: v170 :: v171 :: u172 :: u173 :: u174 :: u175 :: u176 :: u177 :: u178 :: u179 :: u180 :: u181 :: u182 :: u183 :: u184 :: u185 :: u186 :: u187 :: u188 :: u189 :: u190 :: u191 :: u192 :: u193 :: u194 :: u195 :: u196 :: u197 :: u198 :: u199 :: u200 :: u201 :: u202 :: u203 :: u204 :: u205 :: u206 :: u207 :: u208 :: u209 :: [])), []⟩ wr) :
    Code.wp Tryz.prog blk10 (Exit.then K Q') ⟨(List.toArray (.string ⟨s.toArray⟩ :: .int .i64 a :: u2 :: u3 :: u4 :: u5 :: u6 :: u7 :: u8 :: u9 :: u10 :: u11 :: u12 :: u13 :: u14 :: u15 :: u16 :: u17 :: u18 :: u19 :: u20 :: u21 :: u22 :: u23 :: u24 :: u25 :: u26 :: u27 :: u28 :: u29 :: u30 :: u31 :: u32 :: u33 :: u34 :: u35 :: u36 :: u37 :: u38 :: u39 :: u40 :: u41 :: u42 :: u43 :: u44 :: u45 :: u46 :: u47 :: u48 :: u49 :: u50 :: u51 :: u52 :: u53 :: u54 :: u55 :: u56 :: u57 :: u58 :: u59 :: u60 :: u61 :: u62 :: u63 :: u64 :: u65 :: u66 :: u67 :: u68 :: u69 :: u70 :: u71 :: u72 :: u73 :: u74 :: u75 :: u76 :: u77 :: u78 :: u79 :: u80 :: u81 :: u82 :: u83 :: u84 :: u85 :: u86 :: u87 :: u88 :: u89 :: u90 :: u91 :: u92 :: u93 :: u94 :: u95 :: u96 :: u97 :: u98 :: u99 :: u100 :: u101 :: u102 :: u103 :: u104 :: u105 :: u106 :: u107 :: u108 :: u109 :: u110 :: u111 :: u112 :: u113 :: u114 :: u115 :: u116 :: u117 :: u118 :: u119 :: u120 :: u121 :: u122 :: u123 :: u124 :: u125 :: u126 :: u127 :: u128 :: u129 :: u130 :: u131 :: u132 :: u133 :: u134 :: u135 :: u136 :: u137 :: u138 :: u139 :: u140 :: u141 :: u142 :: u143 :: u144 :: u145 :: u146 :: u147 :: u148 :: u149 :: u150 :: u151 :: u152 :: u153 :: u154 :: u155 :: u156 :: u157 :: u158 :: u159 :: u160 :: u161 :: u162 :: u163 :: u164 :: u165 :: u166 :: u167 :: u168 :: u169 :: u170 :: u171 :: u172 :: u173 :: u174 :: u175 :: u176 :: u177 :: u178 :: u179 :: u180 :: u181 :: u182 :: u183 :: u184 :: u185 :: u186 :: u187 :: u188 :: u189 :: u190 :: u191 :: u192 :: u193 :: u194 :: u195 :: u196 :: u197 :: u198 :: u199 :: u200 :: u201 :: u202 :: u203 :: u204 :: u205 :: u206 :: u207 :: u208 :: u209 :: [])), []⟩ wr := by
  have S := Lib.hid S0
  have hE := S0.ub
  have hA := S0.le
  clear S0
  subst ha
  conv => arg 2; whnf
  go_wp2_with fail
  go_loopw [1] (fun i wq => ∃ k : Nat, A ≤ k ∧ k ≤ E ∧ i = .int .i64 (k : Int) ∧ wr = wq) (fun i _ => s.length - (intOf i).toNat)
  case atStart => exact ⟨A, Nat.le_refl _, hA, rfl, rfl⟩
  case round =>
    obtain ⟨k, hk1, hk2, rfl, rfl⟩ := hrel
    by_cases hlt : k < E
    · have hk3 : k < s.length := by omega
      rcases vch_yes (S.out.inn k hk3 hk1 hlt) with ⟨y, z⟩
      · obtain ⟨f62, g62⟩ : ((s[k].toNat : Int) == 62) = false ∧ ((s[k].toNat : Int) != 62) = true := c_ne s[k] 62 (by decide) z
        have WC := Lib.hid (fun W => isWhite_c s[k] W)
        rw [y] at WC
        clear y
        go_wp2_with (go_at_call 27; (with_reducible refine (WC.out _).mono ?_); rintro e w7 ⟨rfl, rfl⟩)
        go_roundw
        case rel => exact ⟨k + 1, by omega, by omega, by go_num, by trivial⟩
        case measure => simp [intOf]; omega
    · obtain rfl : k = E := by omega
      clear hlt
      by_cases hk3 : k < s.length
      · rcases vch_no (S.out.out hk3) with y | ⟨y, z⟩
        · have WC := Lib.hid (fun W => isWhite_c s[k] W)
          rw [y] at WC
          clear y
          go_wp2_with (go_at_call 27; (with_reducible refine (WC.out _).mono ?_); rintro e w7 ⟨rfl, rfl⟩)
          exact hK _ _ _ _ _ _ _ _ _ _ _ _ _ _ _ _ _ _ _
        · obtain ⟨f62, g62⟩ : ((s[k].toNat : Int) == 62) = true ∧ ((s[k].toNat : Int) != 62) = false := c_eq s[k] 62 (by decide) z
          have WC := Lib.hid (fun W => isWhite_62 W)
          clear y
          go_wp2_with (go_at_call 27; (with_reducible refine (WC.out _).mono ?_); rintro e w7 ⟨rfl, rfl⟩)
          exact hK _ _ _ _ _ _ _ _ _ _ _ _ _ _ _ _ _ _ _
      · go_wp2
        exact hK _ _ _ _ _ _ _ _ _ _ _ _ _ _ _ _ _ _ _
end Go.Proofs.YtoaecehkmoehjaaGreatDoor

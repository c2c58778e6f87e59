/- Documents, the reference: an element, a kid that is a text that is told (printed by gen_xak.py). -/
import Derived.Test.YtkacjnifhmgeiaaGreatDoorXmlRi
namespace Go.Proofs.YtkacjnifhmgeiaaGreatDoor
open Go.RowKit

set_option maxRecDepth 100000 in
set_option maxHeartbeats 8000000 in
theorem ki_ply (w : World) (b base base2 deep : Nat) (s n : List UInt8) (hs : s.length ≤ 1000000) (_hdp : deep ≤ 8) (a1 : Option Addr) (l1 c1 : Nat) (a : List Atr) (k j T : Nat) (_HEL : Hid (∀ i < k, EyC b s i)) (t3 t' : List UInt8) (out : List Nd) (P : Nat → Prop) (ents : List Nent) (a2 : Option Addr) (l2 c2 : Nat) (w5 : World) (KY : Ky w b base base2 s n (.slice a1 l1 c1) a P out ents t' 0 (.slice a2 l2 c2) w5) (HA : Hid (kiF k deep t3 [] = kiF (j + 1) deep t' out)) (hj : 2 * t'.length + 2 ≤ j + 1) (hjk : j < k) (hT : t'.length ≤ T) (hol : out.length + t'.length ≤ s.length) (HX : Hid (∀ c ∈ out, c.x.length + 4 * t'.length ≤ 4 * s.length)) (h1 : pre [60, 47] t' = false) (h2 : pre sCd t' = false) (h3 : asX t' = .ok none) (h4 : pre [60] t' = false) (h5 : (Tk (t'.takeWhile (· != 60))).2 = true) (u2 u3 u6 u7 u8 u9 u10 u11 u12 u13 u14 u15 u16 u17 u18 u19 u20 u21 u22 u23 u24 u25 u26 u27 u28 u29 u30 u31 u32 u33 u34 u35 u36 u37 u38 u39 u40 u41 u42 u43 u44 u45 u46 u47 u48 u49 u50 u51 u52 u53 u54 u55 u56 u57 u58 u59 u60 u61 u62 u63 u64 u65 u66 u67 u68 u69 u70 u71 u72 u73 u74 u75 u76 u77 u78 u79 u80 u81 u82 u83 u84 u85 u86 u87 u88 u89 u90 u91 u92 u93 u94 u95 u96 u97 u98 u99 u100 u101 u102 u103 u104 u105 u106 u107 u108 u109 u110 u111 u112 u113 u114 u115 u116 u117 u118 u119 u120 u121 u122 u123 u124 u125 u126 u127 u128 u129 u130 u131 u132 u133 u134 u135 u136 u137 u138 u139 u140 u141 u142 u143 u144 u145 u146 u147 u148 u149 u150 u151 u152 u153 u154 u155 u156 u157 u158 u159 u160 u161 u162 u163 u164 u165 u166 u167 u168 u169 u170 u171 u172 u173 u174 u175 u176 u177 u178 u179 u180 u181 u182 u183 u184 u185 u186 u187 u188 u189 u190 u191 u192 u193 u194 u195 u196 u197 u198 u199 u200 u201 u202 u203 u204 u205 u206 u207 u208 u209 u210 u211 u212 u213 u214 u215 u216 u217 u218 u219 u220 u221 u222 u223 u224 u225 u226 u227 u228 u229 u230 u231 u232 u233 u234 u235 u236 u237 u238 u239 u240 u241 u242 u243 u244 u245 u246 u247 u248 u249 u250 u251 u252 u253 u254 u255 u256 u257 u258 u259 u260 u261 u262 u263 u264 u265 u266 u267 u268 u269 u270 u271 u272 u273 u274 u275 u276 u277 u278 u279 u280 u281 u282 u283 u284 u285 u286 u287 u288 u289 u290 u291 u292 u293 u294 u295 u296 u297 u298 u299 u300 u301 u302 u303 u304 u305 u306 u307 u308 u309 u310 u311 u312 u313 : Value) (Q : Exit → Act → World → Prop)
    (hN : ∀ (v9 v193 v194 v195 v196 v197 v198 v199 v200 v201 v202 v203 v204 v205 v206 v207 v208 v209 v210 v211 v212 v213 v214 v215 v216 v217 v218 v219 v220 v221 v222 v223 v224 v225 v226 v227 v228 v229 v230 v231 v232 v233 v234 v235 v236 v237 v238 v239 v240 v241 v242 v243 v244 v245 v246 v247 v248 v249 v250 v251 v252 v253 v254 v255 v256 v257 v258 v259 v260 v261 v262 v263 v264 v265 v266 v267 v268 v269 v270 v271 v272 v273 v274 v275 : Value) (wx : World), KyRound w b base base2 s n a1 l1 c1 a k deep t3 T wx → Q .normal ⟨(List.toArray (.pointer (some ⟨b, 0, none⟩) :: .int .i64 (deep : Int) :: u2 :: u3 :: .pointer (some ⟨w.heap.size, 0, none⟩) :: .pointer (some ⟨w.heap.size + 1, 0, none⟩) :: u6 :: u7 :: u8 :: v9 :: u10 :: u11 :: u12 :: u13 :: u14 :: u15 :: u16 :: u17 :: u18 :: u19 :: u20 :: u21 :: u22 :: u23 :: u24 :: u25 :: u26 :: u27 :: u28 :: u29 :: u30 :: u31 :: u32 :: u33 :: u34 :: u35 :: u36 :: u37 :: u38 :: u39 :: u40 :: u41 :: u42 :: u43 :: u44 :: u45 :: u46 :: u47 :: u48 :: u49 :: u50 :: u51 :: u52 :: u53 :: u54 :: u55 :: u56 :: u57 :: u58 :: u59 :: u60 :: u61 :: u62 :: u63 :: u64 :: u65 :: u66 :: u67 :: u68 :: u69 :: u70 :: u71 :: u72 :: u73 :: u74 :: u75 :: u76 :: u77 :: u78 :: u79 :: u80 :: u81 :: u82 :: u83 :: u84 :: u85 :: u86 :: u87 :: u88 :: u89 :: u90 :: u91 :: u92 :: u93 :: u94 :: u95 :: u96 :: u97 :: u98 :: u99 :: u100 :: u101 :: u102 :: u103 :: u104 :: u105 :: u106 :: u107 :: u108 :: u109 :: u110 :: u111 :: u112 :: u113 :: u114 :: u115 :: u116 :: u117 :: u118 :: u119 :: u120 :: u121 :: u122 :: u123 :: u124 :: u125 :: u126 :: u127 :: u128 :: u129 :: u130 :: u131 :: u132 :: u133 :: u134 :: u135 :: u136 :: u137 :: u138 :: u139 :: u140 :: u141 :: u142 :: u143 :: u144 :: u145 :: u146 :: u147 :: u148 :: u149 :: u150 :: u151 :: u152 :: u153 :: u154 :: u155 :: u156 :: u157 :: u158 :: u159 :: u160 :: u161 :: u162 :: u163 :: u164 :: u165 :: u166 :: u167 :: u168 :: u169 :: u170 :: u171 :: u172 :: u173 :: u174 :: u175 :: u176 :: u177 :: u178 :: u179 :: u180 :: u181 :: u182 :: u183 :: u184 :: u185 :: u186 :: u187 :: u188 :: u189 :: u190 :: u191 :: u192 :: v193 :: v194 :: v195 :: v196 :: v197 :: v198 :: v199 :: v200 :: v201 :: v202 :: v203 :: v204 :: v205 :: v206 :: v207 :: v208 :: v209 :: v210 :: v211 :: v212 :: v213 :: v214 :: v215 :: v216 :: v217 :: v218 :: v219 :: v220 :: v221 :: v222 :: v223 :: v224 :: v225 :: v226 :: v227 :: v228 :: v229 :: v230 :: v231 :: v232 :: v233 :: v234 :: v235 :: v236 :: v237 :: v238 :: v239 :: v240 :: v241 :: v242 :: v243 :: v244 :: v245 :: v246 :: v247 :: v248 :: v249 :: v250 :: v251 :: v252 :: v253 :: v254 :: v255 :: v256 :: v257 :: v258 :: v259 :: v260 :: v261 :: v262 :: v263 :: v264 :: v265 :: v266 :: v267 :: v268 :: v269 :: v270 :: v271 :: v272 :: v273 :: v274 :: v275 :: u276 :: u277 :: u278 :: u279 :: u280 :: u281 :: u282 :: u283 :: u284 :: u285 :: u286 :: u287 :: u288 :: u289 :: u290 :: u291 :: u292 :: u293 :: u294 :: u295 :: u296 :: u297 :: u298 :: u299 :: u300 :: u301 :: u302 :: u303 :: u304 :: u305 :: u306 :: u307 :: u308 :: u309 :: u310 :: u311 :: u312 :: u313 :: [])), []⟩ wx) :
    Code.wp Tryz.prog blk3 (np Q) ⟨(List.toArray (.pointer (some ⟨b, 0, none⟩) :: .int .i64 (deep : Int) :: u2 :: u3 :: .pointer (some ⟨w.heap.size, 0, none⟩) :: .pointer (some ⟨w.heap.size + 1, 0, none⟩) :: u6 :: u7 :: u8 :: u9 :: u10 :: u11 :: u12 :: u13 :: u14 :: u15 :: u16 :: u17 :: u18 :: u19 :: u20 :: u21 :: u22 :: u23 :: u24 :: u25 :: u26 :: u27 :: u28 :: u29 :: u30 :: u31 :: u32 :: u33 :: u34 :: u35 :: u36 :: u37 :: u38 :: u39 :: u40 :: u41 :: u42 :: u43 :: u44 :: u45 :: u46 :: u47 :: u48 :: u49 :: u50 :: u51 :: u52 :: u53 :: u54 :: u55 :: u56 :: u57 :: u58 :: u59 :: u60 :: u61 :: u62 :: u63 :: u64 :: u65 :: u66 :: u67 :: u68 :: u69 :: u70 :: u71 :: u72 :: u73 :: u74 :: u75 :: u76 :: u77 :: u78 :: u79 :: u80 :: u81 :: u82 :: u83 :: u84 :: u85 :: u86 :: u87 :: u88 :: u89 :: u90 :: u91 :: u92 :: u93 :: u94 :: u95 :: u96 :: u97 :: u98 :: u99 :: u100 :: u101 :: u102 :: u103 :: u104 :: u105 :: u106 :: u107 :: u108 :: u109 :: u110 :: u111 :: u112 :: u113 :: u114 :: u115 :: u116 :: u117 :: u118 :: u119 :: u120 :: u121 :: u122 :: u123 :: u124 :: u125 :: u126 :: u127 :: u128 :: u129 :: u130 :: u131 :: u132 :: u133 :: u134 :: u135 :: u136 :: u137 :: u138 :: u139 :: u140 :: u141 :: u142 :: u143 :: u144 :: u145 :: u146 :: u147 :: u148 :: u149 :: u150 :: u151 :: u152 :: u153 :: u154 :: u155 :: u156 :: u157 :: u158 :: u159 :: u160 :: u161 :: u162 :: u163 :: u164 :: u165 :: u166 :: u167 :: u168 :: u169 :: u170 :: u171 :: u172 :: u173 :: u174 :: u175 :: u176 :: u177 :: u178 :: u179 :: u180 :: u181 :: u182 :: u183 :: u184 :: u185 :: u186 :: u187 :: u188 :: u189 :: u190 :: u191 :: u192 :: u193 :: u194 :: u195 :: u196 :: u197 :: u198 :: u199 :: u200 :: u201 :: u202 :: u203 :: u204 :: u205 :: u206 :: u207 :: u208 :: u209 :: u210 :: u211 :: u212 :: u213 :: u214 :: u215 :: u216 :: u217 :: u218 :: u219 :: u220 :: u221 :: u222 :: u223 :: u224 :: u225 :: u226 :: u227 :: u228 :: u229 :: u230 :: u231 :: u232 :: u233 :: u234 :: u235 :: u236 :: u237 :: u238 :: u239 :: u240 :: u241 :: u242 :: u243 :: u244 :: u245 :: u246 :: u247 :: u248 :: u249 :: u250 :: u251 :: u252 :: u253 :: u254 :: u255 :: u256 :: u257 :: u258 :: u259 :: u260 :: u261 :: u262 :: u263 :: u264 :: u265 :: u266 :: u267 :: u268 :: u269 :: u270 :: u271 :: u272 :: u273 :: u274 :: u275 :: u276 :: u277 :: u278 :: u279 :: u280 :: u281 :: u282 :: u283 :: u284 :: u285 :: u286 :: u287 :: u288 :: u289 :: u290 :: u291 :: u292 :: u293 :: u294 :: u295 :: u296 :: u297 :: u298 :: u299 :: u300 :: u301 :: u302 :: u303 :: u304 :: u305 :: u306 :: u307 :: u308 :: u309 :: u310 :: u311 :: u312 :: u313 :: [])), []⟩ w5 := by
  have hlt := KY.rd.len
  have hbq : b ≠ w.heap.size + 1 := by have := KY.cx.lt; omega
  have hbq' : w.heap.size + 1 ≠ b := by omega
  obtain ⟨K, hK⟩ : ∃ K, K = s.length - t'.length := ⟨_, rfl⟩
  have hd := sfx_drop KY.rd.sf
  rw [← hK] at hd
  have HK := Lib.hid hK
  have SC := Lib.hid (fun W => startsAt_c s [60, 33, 91, 67, 68, 65, 84, 65, 91] K (by omega) (by decide) (by omega) W)
  rw [hd] at SC
  have SL := Lib.hid (fun W => startsAt_c s [60] K (by omega) (by decide) (by omega) W)
  rw [hd] at SL
  obtain ⟨c0, c1', c2', f0, f1, f2⟩ := KY.rd.at_ hK
  obtain ⟨m0, m1, m2, m3, g0, g1, g2, g3⟩ := KY.cx.nb.cells
  rw [show pre [60, 33, 91, 67, 68, 65, 84, 65, 91] t' = false from h2] at SC
  have AC := Lib.hid (fun W h => asideR_c b s t' W h (by omega))
  rw [h3] at AC
  rw [h4] at SL
  have e9 := congrArg List.length (List.takeWhile_append_dropWhile (p := (· != (60 : UInt8))) (l := t'))
  rw [List.length_append] at e9
  have UC := Lib.hid (fun W => upTo_c s K 60 (by omega) (by omega) W)
  rw [hd] at UC
  obtain ⟨m, hm⟩ : ∃ m, m = (t'.takeWhile (· != 60)).length := ⟨_, rfl⟩
  obtain ⟨M, hM⟩ : ∃ M, M = K + m := ⟨_, rfl⟩
  rw [← hm, ← hM] at UC
  rw [← hm] at e9
  have HTK := Lib.hid (show (s.drop K).take (M - K) = t'.takeWhile (· != 60) by rw [hd, show M - K = m by omega, hm]; exact tw_take _ _)
  have HDW := Lib.hid (show t'.drop m = t'.dropWhile (· != 60) by rw [hm]; exact tw_drop _ _)
  have HM := Lib.hid (show M = s.length - t'.length + m by omega)
  have hKM : K ≤ M := by omega
  have hMs : M ≤ s.length := by omega
  have hKMi : (K : Int) ≤ (M : Int) := by omega
  have hMsi : (M : Int) ≤ (s.length : Int) := by omega
  have hmt : m ≤ t'.length := by omega
  obtain ⟨x, hx⟩ : ∃ x, x = t'.takeWhile (· != 60) := ⟨_, rfl⟩
  have hxl : x.length = m := by rw [hx, hm]
  rw [← hx] at HTK h5
  have HE1 := Lib.hid (fun h6 : t'.dropWhile (· != 60) = [] => show kiF k deep t3 [] = .error 1 by rw [HA.out]; exact ki_pl_end h1 h2 h3 h4 h6)
  have HM1 := Lib.hid (fun h6 : t'.dropWhile (· != 60) = [] => show ((M : Int) == (s.length : Int)) = true by have h9 := congrArg List.length h6; simp only [List.length_nil] at h9; simp; omega)
  have HM2 := Lib.hid (fun h6 : t'.dropWhile (· != 60) ≠ [] => show ((M : Int) == (s.length : Int)) = false by have h9 := List.length_pos_iff.2 h6; simp; omega)
  have HE2 := Lib.hid (fun h6 : t'.dropWhile (· != 60) ≠ [] => show kiF k deep t3 [] = kiF (j - 1 + 1) deep (t'.drop m) (addT out (Tk x).1) by rw [HA.out, HDW.out, hx, show j - 1 + 1 = j by omega]; exact ki_pl h1 h2 h3 h4 (by rw [← hx]; exact h5) h6)
  have HL2 := Lib.hid (fun h6 : t'.dropWhile (· != 60) ≠ [] => show 1 ≤ m by have := (pl_len h4 h6).1; omega)
  have hdl : (t'.drop m).length = t'.length - m := List.length_drop
  have TDC := Lib.hid (fun W => toldR_yes x (by omega) b W h5)
  have hyl := Tk_len x.length x (Nat.le_refl _)
  have hxl2 : x.length ≤ m := by omega
  obtain ⟨y, hy⟩ : ∃ y, y = (Tk x).1 := ⟨_, rfl⟩
  rw [← hy] at TDC hyl HE2
  have HV := Lib.hid (pt_xlen out y (4 * s.length - 4 * t'.length) (fun c hc => by have := HX.out c hc; omega))
  have hal := addT_len out y
  have XC := Lib.hid (fun W u (h : Ky w b base base2 s n (.slice a1 l1 c1) a P out ents u 0 (.slice a2 l2 c2) W) => addTextR_c base2 P out ents (.slice a2 l2 c2) y W h.no (fun k hk => (h.pb k hk).2) h.sz (by omega) (by omega) (fun c hc => by have := HX.out c hc; omega))
  clear h1 h2 h3 h4 h5 hK hd hx hm hM hy e9 hxl
  conv => arg 2; whnf
  go_upto_region 46 with (first | go_quiet (first | (go_at_call 47; (with_reducible exact quiet_eq (SC.out _)))))
  have KYa := KY.of_bl ((Bl.refl w5).drewN nq)
  go_upto_region 38 with (first | (go_at_call 43; (with_reducible refine (AC.out _ KYa.rd).mono ?_); rintro e w2 ⟨hg2, rfl, hR2⟩; have KY2 := KYa.of_gb hg2 hR2; obtain ⟨d0, d1, d2, d3, d4, d5⟩ := KY2.rd.at_ HK.out; obtain ⟨n0, n1, n2, n3, n4, n5, n6, n7⟩ := KY2.cx.nb.cells) | go_quiet (first | (go_at_call 47; (with_reducible exact quiet_eq (SL.out _)))))
  clear d0 d1 d2 d3 d4 d5 n0 n1 n2 n3 n4 n5 n6 n7
  have KY5 := KY2.of_bl ((Bl.refl w2).drewN nq)
  obtain ⟨W5, hw5⟩ : ∃ W5, W5 = w2.drewN nq := ⟨_, rfl⟩
  rw [← hw5] at KY5
  rw [← hw5]
  clear hw5 KY2 hR2
  obtain ⟨d0, d1, d2, d3, d4, d5⟩ := KY5.rd.at_ HK.out
  go_upto_region 39 with go_quiet (first | (go_at_call 52; exact quiet_qt (UC.out _)))
  clear d0 d1 d2 d3 d4 d5
  have KY6 := KY5.of_bl ((Bl.refl W5).drewN nq)
  obtain ⟨W6, hw6⟩ : ∃ W6, W6 = W5.drewN nq := ⟨_, rfl⟩
  rw [← hw6] at KY6
  rw [← hw6]
  clear hw6 KY5
  have KY7 := KY6.of_bl (Bl.refl W6).drew
  obtain ⟨k0, k1', k2, j0, j1, j2⟩ := KY6.rd.at_ HK.out
  obtain ⟨n0, n1, n2, n3, n4, n5, n6, n7⟩ := KY6.cx.nb.cells
  go_region_with (first | (go_at_call 50; rw [HTK.out]; (with_reducible refine (TDC.out _).mono ?_); rintro e wt ⟨rfl, hbt⟩; have KYk := KY7.of_bl hbt; obtain ⟨⟨x0, x2, x1⟩, ⟨x3, x4⟩⟩ := KYk.cells; have x5 := (KYk.rd.at_ HK.out).2.1) | (go_at_call 51; (with_reducible refine (XC.out _ _ KYk).mono ?_); rintro e w8 ⟨v8, ents8, rfl, hN8, hb8⟩; have KZ8 := KYk.text hN8 hb8; obtain ⟨a8, q8, rfl⟩ := KZ8.shape; have KY9 := KZ8.set; have x6 := (KZ8.rd.at_ HK.out).2.1; have KYA := KY9.of_gb (gb_set (gb_refl _ _) 1 (.int .i64 (M : Int))) (show Yr _ b s (t'.drop m) _ from KY9.rd.adv hmt (show (M : Int) = ((s.length - t'.length + m : Nat) : Int) from by have := HM.out; omega)); obtain ⟨o0, o1, o2, o3, o4, o5⟩ := KYA.rd.rk.cells; obtain ⟨p0, p1, p2, p3, r0, r1, r2, r3⟩ := KZ8.cx.nb.cells; obtain ⟨b0, b1, b2, b3, b4, b5⟩ := KZ8.rd.rk.cells))
  all_goals
    rcases Classical.em (t'.dropWhile (· != 60) = []) with h6 | h6
    · have hMe := HM1.out h6
      go_wp2_with (first | (go_at_call 23; (with_reducible refine (failR_c 1 (by decide) b s _ _ KYA.rd).mono ?_); rintro e wf ⟨rfl, hRf, hgf⟩; have KYf := KYA.of_gb hgf hRf))
      exact hN _ _ _ _ _ _ _ _ _ _ _ _ _ _ _ _ _ _ _ _ _ _ _ _ _ _ _ _ _ _ _ _ _ _ _ _ _ _ _ _ _ _ _ _ _ _ _ _ _ _ _ _ _ _ _ _ _ _ _ _ _ _ _ _ _ _ _ _ _ _ _ _ _ _ _ _ _ _ _ _ _ _ _ _ _ (ky_err KYf (by decide) (HE1.out h6))
    · have hMe := HM2.out h6
      go_wp2
      have hm1 := HL2.out h6
      exact hN _ _ _ _ _ _ _ _ _ _ _ _ _ _ _ _ _ _ _ _ _ _ _ _ _ _ _ _ _ _ _ _ _ _ _ _ _ _ _ _ _ _ _ _ _ _ _ _ _ _ _ _ _ _ _ _ _ _ _ _ _ _ _ _ _ _ _ _ _ _ _ _ _ _ _ _ _ _ _ _ _ _ _ _ _ (ky_next KYA (HE2.out h6) (by omega) (by omega) (by omega) (fun c hc => by have := HV.out c hc; omega) (by omega))
end Go.Proofs.YtkacjnifhmgeiaaGreatDoor

/- Documents, the reference: an element, the ways of an attribute (printed by gen_xay.py). -/
import Derived.Test.YtkacjnifhmgeiaaGreatDoorXmlRe
import Derived.Test.YtkacjnifhmgeiaaGreatDoorXmlRc
import Derived.Deep.CutBlock
import Derived.Deep.CutRange
namespace Go.Proofs.YtkacjnifhmgeiaaGreatDoor
open Go.RowKit

/-- What begins with an attribute's title. -/
noncomputable def tail10 : Code := (Tryz.f22.body.bind (fc (isSeq 10))).getD .skip
set_option maxRecDepth 100000 in
set_option maxHeartbeats 8000000 in
theorem ay_ti (w : World) (b base deep : Nat) (s n t1 : List UInt8) (hs : s.length ≤ 1000000) (hbb : b < base) (hqb : w.heap.size + 2 ≤ base) (a1 : Option Addr) (l1 c1 : Nat) (out : List Atr) (j T : Nat) (tt : List UInt8) (HAS : Hid (atrX t1 = asN j tt out)) (_htT : tt.length < T) (_hTj : T ≤ j) (_hol : out.length + T ≤ s.length) (_HNL : Hid (∀ a ∈ out, a.1.length ≤ s.length)) (w5 : World) (hz5 : base ≤ w5.heap.size) (hC5 : Cx w b n (.slice a1 l1 c1) (.slice none 0 0) w5) (_hO5 : AtO w5 base (.slice a1 l1 c1) out) (hR5 : Yr w5 b s tt 0) (e : Int) (ht : tiX tt = .error e) (u2 u3 u6 u7 u8 u9 u10 u11 u12 u13 u14 u15 u16 u17 u18 u19 u20 u21 u22 u23 u24 u25 u26 u27 u28 u29 u30 u31 u32 u33 u34 u35 u36 u37 u38 u39 u40 u41 u42 u43 u44 u45 u46 u47 u48 u49 u50 u51 u52 u53 u54 u55 u56 u57 u58 u59 u60 u61 u62 u63 u64 u65 u66 u67 u68 u69 u70 u71 u72 u73 u74 u75 u76 u77 u78 u79 u80 u81 u82 u83 u84 u85 u86 u87 u88 u89 u90 u91 u92 u93 u94 u95 u96 u97 u98 u99 u100 u101 u102 u103 u104 u105 u106 u107 u108 u109 u110 u111 u112 u113 u114 u115 u116 u117 u118 u119 u120 u121 u122 u123 u124 u125 u126 u127 u128 u129 u130 u131 u132 u133 u134 u135 u136 u137 u138 u139 u140 u141 u142 u143 u144 u145 u146 u147 u148 u149 u150 u151 u152 u153 u154 u155 u156 u157 u158 u159 u160 u161 u162 u163 u164 u165 u166 u167 u168 u169 u170 u171 u172 u173 u174 u175 u176 u177 u178 u179 u180 u181 u182 u183 u184 u185 u186 u187 u188 u189 u190 u191 u192 u193 u194 u195 u196 u197 u198 u199 u200 u201 u202 u203 u204 u205 u206 u207 u208 u209 u210 u211 u212 u213 u214 u215 u216 u217 u218 u219 u220 u221 u222 u223 u224 u225 u226 u227 u228 u229 u230 u231 u232 u233 u234 u235 u236 u237 u238 u239 u240 u241 u242 u243 u244 u245 u246 u247 u248 u249 u250 u251 u252 u253 u254 u255 u256 u257 u258 u259 u260 u261 u262 u263 u264 u265 u266 u267 u268 u269 u270 u271 u272 u273 u274 u275 u276 u277 u278 u279 u280 u281 u282 u283 u284 u285 u286 u287 u288 u289 u290 u291 u292 u293 u294 u295 u296 u297 u298 u299 u300 u301 u302 u303 u304 u305 u306 u307 u308 u309 u310 u311 u312 u313 : Value) (Q : Exit → Act → World → Prop)
    (hX : ∀ (v6 v7 v8 v77 v78 v79 v80 v81 v82 v83 v84 v85 v86 v87 v88 v89 v90 v91 v92 v93 v94 v95 v96 v97 v98 v99 v100 v101 v102 v103 v104 v105 v106 v107 v108 v109 v110 v111 v112 v113 v114 v115 v116 v117 v118 v119 v120 v121 v122 v123 v124 v125 v126 v127 v128 v129 v130 v131 v132 v133 v134 v135 v136 v137 v138 v139 v140 v141 v142 v143 v144 v145 v146 v147 v148 v149 v150 : Value) (wx : World) (a1 : Option Addr) (l1 c1 : Nat) (e : Int) (t' : List UInt8), Cx w b n (.slice a1 l1 c1) (.slice none 0 0) wx → Yr wx b s t' e → e ≠ 0 → atrX t1 = .error e → Q .ret ⟨(List.toArray (.pointer (some ⟨b, 0, none⟩) :: .int .i64 (deep : Int) :: u2 :: u3 :: .pointer (some ⟨w.heap.size, 0, none⟩) :: .pointer (some ⟨w.heap.size + 1, 0, none⟩) :: v6 :: v7 :: v8 :: u9 :: u10 :: u11 :: u12 :: u13 :: u14 :: u15 :: u16 :: u17 :: u18 :: u19 :: u20 :: u21 :: u22 :: u23 :: u24 :: u25 :: u26 :: u27 :: u28 :: u29 :: u30 :: u31 :: u32 :: u33 :: u34 :: u35 :: u36 :: u37 :: u38 :: u39 :: u40 :: u41 :: u42 :: u43 :: u44 :: u45 :: u46 :: u47 :: u48 :: u49 :: u50 :: u51 :: u52 :: u53 :: u54 :: u55 :: u56 :: u57 :: u58 :: u59 :: u60 :: u61 :: u62 :: u63 :: u64 :: u65 :: u66 :: u67 :: u68 :: u69 :: u70 :: u71 :: u72 :: u73 :: u74 :: u75 :: u76 :: v77 :: v78 :: v79 :: v80 :: v81 :: v82 :: v83 :: v84 :: v85 :: v86 :: v87 :: v88 :: v89 :: v90 :: v91 :: v92 :: v93 :: v94 :: v95 :: v96 :: v97 :: v98 :: v99 :: v100 :: v101 :: v102 :: v103 :: v104 :: v105 :: v106 :: v107 :: v108 :: v109 :: v110 :: v111 :: v112 :: v113 :: v114 :: v115 :: v116 :: v117 :: v118 :: v119 :: v120 :: v121 :: v122 :: v123 :: v124 :: v125 :: v126 :: v127 :: v128 :: v129 :: v130 :: v131 :: v132 :: v133 :: v134 :: v135 :: v136 :: v137 :: v138 :: v139 :: v140 :: v141 :: v142 :: v143 :: v144 :: v145 :: v146 :: v147 :: v148 :: v149 :: v150 :: u151 :: u152 :: u153 :: u154 :: u155 :: u156 :: u157 :: u158 :: u159 :: u160 :: u161 :: u162 :: u163 :: u164 :: u165 :: u166 :: u167 :: u168 :: u169 :: u170 :: u171 :: u172 :: u173 :: u174 :: u175 :: u176 :: u177 :: u178 :: u179 :: u180 :: u181 :: u182 :: u183 :: u184 :: u185 :: u186 :: u187 :: u188 :: u189 :: u190 :: u191 :: u192 :: u193 :: u194 :: u195 :: u196 :: u197 :: u198 :: u199 :: u200 :: u201 :: u202 :: u203 :: u204 :: u205 :: u206 :: u207 :: u208 :: u209 :: u210 :: u211 :: u212 :: u213 :: u214 :: u215 :: u216 :: u217 :: u218 :: u219 :: u220 :: u221 :: u222 :: u223 :: u224 :: u225 :: u226 :: u227 :: u228 :: u229 :: u230 :: u231 :: u232 :: u233 :: u234 :: u235 :: u236 :: u237 :: u238 :: u239 :: u240 :: u241 :: u242 :: u243 :: u244 :: u245 :: u246 :: u247 :: u248 :: u249 :: u250 :: u251 :: u252 :: u253 :: u254 :: u255 :: u256 :: u257 :: u258 :: u259 :: u260 :: u261 :: u262 :: u263 :: u264 :: u265 :: u266 :: u267 :: u268 :: u269 :: u270 :: u271 :: u272 :: u273 :: u274 :: u275 :: u276 :: u277 :: u278 :: u279 :: u280 :: u281 :: u282 :: u283 :: u284 :: u285 :: u286 :: u287 :: u288 :: u289 :: u290 :: u291 :: u292 :: u293 :: u294 :: u295 :: u296 :: u297 :: u298 :: u299 :: u300 :: u301 :: u302 :: u303 :: u304 :: u305 :: u306 :: u307 :: u308 :: u309 :: u310 :: u311 :: u312 :: u313 :: [])), []⟩ ((((wx.setCell ⟨w.heap.size, 0, none⟩ (.string ⟨n.toArray⟩)).setCell ⟨w.heap.size, 1, none⟩ (.slice a1 l1 c1)).setCell ⟨w.heap.size, 2, none⟩ (.string ⟨#[]⟩)).setCell ⟨w.heap.size, 3, none⟩ (.slice none 0 0))) :
    Code.wp Tryz.prog tail10 Q ⟨(List.toArray (.pointer (some ⟨b, 0, none⟩) :: .int .i64 (deep : Int) :: u2 :: u3 :: .pointer (some ⟨w.heap.size, 0, none⟩) :: .pointer (some ⟨w.heap.size + 1, 0, none⟩) :: u6 :: u7 :: u8 :: u9 :: u10 :: u11 :: u12 :: u13 :: u14 :: u15 :: u16 :: u17 :: u18 :: u19 :: u20 :: u21 :: u22 :: u23 :: u24 :: u25 :: u26 :: u27 :: u28 :: u29 :: u30 :: u31 :: u32 :: u33 :: u34 :: u35 :: u36 :: u37 :: u38 :: u39 :: u40 :: u41 :: u42 :: u43 :: u44 :: u45 :: u46 :: u47 :: u48 :: u49 :: u50 :: u51 :: u52 :: u53 :: u54 :: u55 :: u56 :: u57 :: u58 :: u59 :: u60 :: u61 :: u62 :: u63 :: u64 :: u65 :: u66 :: u67 :: u68 :: u69 :: u70 :: u71 :: u72 :: u73 :: u74 :: u75 :: u76 :: u77 :: u78 :: u79 :: u80 :: u81 :: u82 :: u83 :: u84 :: u85 :: u86 :: u87 :: u88 :: u89 :: u90 :: u91 :: u92 :: u93 :: u94 :: u95 :: u96 :: u97 :: u98 :: u99 :: u100 :: u101 :: u102 :: u103 :: u104 :: u105 :: u106 :: u107 :: u108 :: u109 :: u110 :: u111 :: u112 :: u113 :: u114 :: u115 :: u116 :: u117 :: u118 :: u119 :: u120 :: u121 :: u122 :: u123 :: u124 :: u125 :: u126 :: u127 :: u128 :: u129 :: u130 :: u131 :: u132 :: u133 :: u134 :: u135 :: u136 :: u137 :: u138 :: u139 :: u140 :: u141 :: u142 :: u143 :: u144 :: u145 :: u146 :: u147 :: u148 :: u149 :: u150 :: u151 :: u152 :: u153 :: u154 :: u155 :: u156 :: u157 :: u158 :: u159 :: u160 :: u161 :: u162 :: u163 :: u164 :: u165 :: u166 :: u167 :: u168 :: u169 :: u170 :: u171 :: u172 :: u173 :: u174 :: u175 :: u176 :: u177 :: u178 :: u179 :: u180 :: u181 :: u182 :: u183 :: u184 :: u185 :: u186 :: u187 :: u188 :: u189 :: u190 :: u191 :: u192 :: u193 :: u194 :: u195 :: u196 :: u197 :: u198 :: u199 :: u200 :: u201 :: u202 :: u203 :: u204 :: u205 :: u206 :: u207 :: u208 :: u209 :: u210 :: u211 :: u212 :: u213 :: u214 :: u215 :: u216 :: u217 :: u218 :: u219 :: u220 :: u221 :: u222 :: u223 :: u224 :: u225 :: u226 :: u227 :: u228 :: u229 :: u230 :: u231 :: u232 :: u233 :: u234 :: u235 :: u236 :: u237 :: u238 :: u239 :: u240 :: u241 :: u242 :: u243 :: u244 :: u245 :: u246 :: u247 :: u248 :: u249 :: u250 :: u251 :: u252 :: u253 :: u254 :: u255 :: u256 :: u257 :: u258 :: u259 :: u260 :: u261 :: u262 :: u263 :: u264 :: u265 :: u266 :: u267 :: u268 :: u269 :: u270 :: u271 :: u272 :: u273 :: u274 :: u275 :: u276 :: u277 :: u278 :: u279 :: u280 :: u281 :: u282 :: u283 :: u284 :: u285 :: u286 :: u287 :: u288 :: u289 :: u290 :: u291 :: u292 :: u293 :: u294 :: u295 :: u296 :: u297 :: u298 :: u299 :: u300 :: u301 :: u302 :: u303 :: u304 :: u305 :: u306 :: u307 :: u308 :: u309 :: u310 :: u311 :: u312 :: u313 :: [])), []⟩ w5 := by
  obtain rfl := tiX_err ht
  have TC := Lib.hid (titleR_c b s tt w5 hR5 (by omega))
  rw [ht] at TC
  have ER := Lib.hid (show atrX t1 = .error 1 by rw [HAS.out]; unfold asN; rw [ht])
  clear ht HAS
  conv => arg 2; whnf
  go_wp2_with (first | (go_at_call 45; (with_reducible refine TC.out.mono ?_); rintro e w6 ⟨hg6, v9, t6, rfl, ⟨nm, rfl⟩, hR6⟩; have hs6 := hg6.size; have n1 : b ≠ w6.heap.size := (by omega); have n2 : w.heap.size + 1 ≠ w6.heap.size := (by omega); have n3 : w.heap.size ≠ w6.heap.size := (by omega); have hC7 := (hC5.of_gb hg6).of_bl ((Bl.refl w6).alloc (.cells #[.string ⟨nm.toArray⟩, .string ⟨#[]⟩] 39)); have hR7 := hR6.of_bl ((Bl.refl w6).alloc (.cells #[.string ⟨nm.toArray⟩, .string ⟨#[]⟩] 39)); obtain ⟨m0, m1, m2, m3, g0, g1, g2, g3⟩ := hC7.nb.cells; obtain ⟨z0, z1, z2, z3, y0, y1, y2, y3⟩ := hC7.zb.cells; obtain ⟨c0, c1', c2, f0, f1, f2⟩ := hR7.rk.cells))
  exact hX _ _ _ _ _ _ _ _ _ _ _ _ _ _ _ _ _ _ _ _ _ _ _ _ _ _ _ _ _ _ _ _ _ _ _ _ _ _ _ _ _ _ _ _ _ _ _ _ _ _ _ _ _ _ _ _ _ _ _ _ _ _ _ _ _ _ _ _ _ _ _ _ _ _ _ _ _ _ _ _ _ 1 _ hC7 hR7 (by decide) ER.out
set_option maxRecDepth 100000 in
set_option maxHeartbeats 8000000 in
theorem ay_eq (w : World) (b base deep : Nat) (s n t1 : List UInt8) (hs : s.length ≤ 1000000) (hbb : b < base) (hqb : w.heap.size + 2 ≤ base) (a1 : Option Addr) (l1 c1 : Nat) (out : List Atr) (j T : Nat) (tt : List UInt8) (HAS : Hid (atrX t1 = asN j tt out)) (htT : tt.length < T) (_hTj : T ≤ j) (hol : out.length + T ≤ s.length) (_HNL : Hid (∀ a ∈ out, a.1.length ≤ s.length)) (w5 : World) (hz5 : base ≤ w5.heap.size) (hC5 : Cx w b n (.slice a1 l1 c1) (.slice none 0 0) w5) (hO5 : AtO w5 base (.slice a1 l1 c1) out) (hR5 : Yr w5 b s tt 0) (nm t2 : List UInt8) (ht : tiX tt = .ok (nm, t2)) (h3 : pre [61] (wsX t2) = false) (u2 u3 u6 u7 u8 u9 u10 u11 u12 u13 u14 u15 u16 u17 u18 u19 u20 u21 u22 u23 u24 u25 u26 u27 u28 u29 u30 u31 u32 u33 u34 u35 u36 u37 u38 u39 u40 u41 u42 u43 u44 u45 u46 u47 u48 u49 u50 u51 u52 u53 u54 u55 u56 u57 u58 u59 u60 u61 u62 u63 u64 u65 u66 u67 u68 u69 u70 u71 u72 u73 u74 u75 u76 u77 u78 u79 u80 u81 u82 u83 u84 u85 u86 u87 u88 u89 u90 u91 u92 u93 u94 u95 u96 u97 u98 u99 u100 u101 u102 u103 u104 u105 u106 u107 u108 u109 u110 u111 u112 u113 u114 u115 u116 u117 u118 u119 u120 u121 u122 u123 u124 u125 u126 u127 u128 u129 u130 u131 u132 u133 u134 u135 u136 u137 u138 u139 u140 u141 u142 u143 u144 u145 u146 u147 u148 u149 u150 u151 u152 u153 u154 u155 u156 u157 u158 u159 u160 u161 u162 u163 u164 u165 u166 u167 u168 u169 u170 u171 u172 u173 u174 u175 u176 u177 u178 u179 u180 u181 u182 u183 u184 u185 u186 u187 u188 u189 u190 u191 u192 u193 u194 u195 u196 u197 u198 u199 u200 u201 u202 u203 u204 u205 u206 u207 u208 u209 u210 u211 u212 u213 u214 u215 u216 u217 u218 u219 u220 u221 u222 u223 u224 u225 u226 u227 u228 u229 u230 u231 u232 u233 u234 u235 u236 u237 u238 u239 u240 u241 u242 u243 u244 u245 u246 u247 u248 u249 u250 u251 u252 u253 u254 u255 u256 u257 u258 u259 u260 u261 u262 u263 u264 u265 u266 u267 u268 u269 u270 u271 u272 u273 u274 u275 u276 u277 u278 u279 u280 u281 u282 u283 u284 u285 u286 u287 u288 u289 u290 u291 u292 u293 u294 u295 u296 u297 u298 u299 u300 u301 u302 u303 u304 u305 u306 u307 u308 u309 u310 u311 u312 u313 : Value) (Q : Exit → Act → World → Prop)
    (hX : ∀ (v6 v7 v8 v77 v78 v79 v80 v81 v82 v83 v84 v85 v86 v87 v88 v89 v90 v91 v92 v93 v94 v95 v96 v97 v98 v99 v100 v101 v102 v103 v104 v105 v106 v107 v108 v109 v110 v111 v112 v113 v114 v115 v116 v117 v118 v119 v120 v121 v122 v123 v124 v125 v126 v127 v128 v129 v130 v131 v132 v133 v134 v135 v136 v137 v138 v139 v140 v141 v142 v143 v144 v145 v146 v147 v148 v149 v150 : Value) (wx : World) (a1 : Option Addr) (l1 c1 : Nat) (e : Int) (t' : List UInt8), Cx w b n (.slice a1 l1 c1) (.slice none 0 0) wx → Yr wx b s t' e → e ≠ 0 → atrX t1 = .error e → Q .ret ⟨(List.toArray (.pointer (some ⟨b, 0, none⟩) :: .int .i64 (deep : Int) :: u2 :: u3 :: .pointer (some ⟨w.heap.size, 0, none⟩) :: .pointer (some ⟨w.heap.size + 1, 0, none⟩) :: v6 :: v7 :: v8 :: u9 :: u10 :: u11 :: u12 :: u13 :: u14 :: u15 :: u16 :: u17 :: u18 :: u19 :: u20 :: u21 :: u22 :: u23 :: u24 :: u25 :: u26 :: u27 :: u28 :: u29 :: u30 :: u31 :: u32 :: u33 :: u34 :: u35 :: u36 :: u37 :: u38 :: u39 :: u40 :: u41 :: u42 :: u43 :: u44 :: u45 :: u46 :: u47 :: u48 :: u49 :: u50 :: u51 :: u52 :: u53 :: u54 :: u55 :: u56 :: u57 :: u58 :: u59 :: u60 :: u61 :: u62 :: u63 :: u64 :: u65 :: u66 :: u67 :: u68 :: u69 :: u70 :: u71 :: u72 :: u73 :: u74 :: u75 :: u76 :: v77 :: v78 :: v79 :: v80 :: v81 :: v82 :: v83 :: v84 :: v85 :: v86 :: v87 :: v88 :: v89 :: v90 :: v91 :: v92 :: v93 :: v94 :: v95 :: v96 :: v97 :: v98 :: v99 :: v100 :: v101 :: v102 :: v103 :: v104 :: v105 :: v106 :: v107 :: v108 :: v109 :: v110 :: v111 :: v112 :: v113 :: v114 :: v115 :: v116 :: v117 :: v118 :: v119 :: v120 :: v121 :: v122 :: v123 :: v124 :: v125 :: v126 :: v127 :: v128 :: v129 :: v130 :: v131 :: v132 :: v133 :: v134 :: v135 :: v136 :: v137 :: v138 :: v139 :: v140 :: v141 :: v142 :: v143 :: v144 :: v145 :: v146 :: v147 :: v148 :: v149 :: v150 :: u151 :: u152 :: u153 :: u154 :: u155 :: u156 :: u157 :: u158 :: u159 :: u160 :: u161 :: u162 :: u163 :: u164 :: u165 :: u166 :: u167 :: u168 :: u169 :: u170 :: u171 :: u172 :: u173 :: u174 :: u175 :: u176 :: u177 :: u178 :: u179 :: u180 :: u181 :: u182 :: u183 :: u184 :: u185 :: u186 :: u187 :: u188 :: u189 :: u190 :: u191 :: u192 :: u193 :: u194 :: u195 :: u196 :: u197 :: u198 :: u199 :: u200 :: u201 :: u202 :: u203 :: u204 :: u205 :: u206 :: u207 :: u208 :: u209 :: u210 :: u211 :: u212 :: u213 :: u214 :: u215 :: u216 :: u217 :: u218 :: u219 :: u220 :: u221 :: u222 :: u223 :: u224 :: u225 :: u226 :: u227 :: u228 :: u229 :: u230 :: u231 :: u232 :: u233 :: u234 :: u235 :: u236 :: u237 :: u238 :: u239 :: u240 :: u241 :: u242 :: u243 :: u244 :: u245 :: u246 :: u247 :: u248 :: u249 :: u250 :: u251 :: u252 :: u253 :: u254 :: u255 :: u256 :: u257 :: u258 :: u259 :: u260 :: u261 :: u262 :: u263 :: u264 :: u265 :: u266 :: u267 :: u268 :: u269 :: u270 :: u271 :: u272 :: u273 :: u274 :: u275 :: u276 :: u277 :: u278 :: u279 :: u280 :: u281 :: u282 :: u283 :: u284 :: u285 :: u286 :: u287 :: u288 :: u289 :: u290 :: u291 :: u292 :: u293 :: u294 :: u295 :: u296 :: u297 :: u298 :: u299 :: u300 :: u301 :: u302 :: u303 :: u304 :: u305 :: u306 :: u307 :: u308 :: u309 :: u310 :: u311 :: u312 :: u313 :: [])), []⟩ ((((wx.setCell ⟨w.heap.size, 0, none⟩ (.string ⟨n.toArray⟩)).setCell ⟨w.heap.size, 1, none⟩ (.slice a1 l1 c1)).setCell ⟨w.heap.size, 2, none⟩ (.string ⟨#[]⟩)).setCell ⟨w.heap.size, 3, none⟩ (.slice none 0 0))) :
    Code.wp Tryz.prog tail10 Q ⟨(List.toArray (.pointer (some ⟨b, 0, none⟩) :: .int .i64 (deep : Int) :: u2 :: u3 :: .pointer (some ⟨w.heap.size, 0, none⟩) :: .pointer (some ⟨w.heap.size + 1, 0, none⟩) :: u6 :: u7 :: u8 :: u9 :: u10 :: u11 :: u12 :: u13 :: u14 :: u15 :: u16 :: u17 :: u18 :: u19 :: u20 :: u21 :: u22 :: u23 :: u24 :: u25 :: u26 :: u27 :: u28 :: u29 :: u30 :: u31 :: u32 :: u33 :: u34 :: u35 :: u36 :: u37 :: u38 :: u39 :: u40 :: u41 :: u42 :: u43 :: u44 :: u45 :: u46 :: u47 :: u48 :: u49 :: u50 :: u51 :: u52 :: u53 :: u54 :: u55 :: u56 :: u57 :: u58 :: u59 :: u60 :: u61 :: u62 :: u63 :: u64 :: u65 :: u66 :: u67 :: u68 :: u69 :: u70 :: u71 :: u72 :: u73 :: u74 :: u75 :: u76 :: u77 :: u78 :: u79 :: u80 :: u81 :: u82 :: u83 :: u84 :: u85 :: u86 :: u87 :: u88 :: u89 :: u90 :: u91 :: u92 :: u93 :: u94 :: u95 :: u96 :: u97 :: u98 :: u99 :: u100 :: u101 :: u102 :: u103 :: u104 :: u105 :: u106 :: u107 :: u108 :: u109 :: u110 :: u111 :: u112 :: u113 :: u114 :: u115 :: u116 :: u117 :: u118 :: u119 :: u120 :: u121 :: u122 :: u123 :: u124 :: u125 :: u126 :: u127 :: u128 :: u129 :: u130 :: u131 :: u132 :: u133 :: u134 :: u135 :: u136 :: u137 :: u138 :: u139 :: u140 :: u141 :: u142 :: u143 :: u144 :: u145 :: u146 :: u147 :: u148 :: u149 :: u150 :: u151 :: u152 :: u153 :: u154 :: u155 :: u156 :: u157 :: u158 :: u159 :: u160 :: u161 :: u162 :: u163 :: u164 :: u165 :: u166 :: u167 :: u168 :: u169 :: u170 :: u171 :: u172 :: u173 :: u174 :: u175 :: u176 :: u177 :: u178 :: u179 :: u180 :: u181 :: u182 :: u183 :: u184 :: u185 :: u186 :: u187 :: u188 :: u189 :: u190 :: u191 :: u192 :: u193 :: u194 :: u195 :: u196 :: u197 :: u198 :: u199 :: u200 :: u201 :: u202 :: u203 :: u204 :: u205 :: u206 :: u207 :: u208 :: u209 :: u210 :: u211 :: u212 :: u213 :: u214 :: u215 :: u216 :: u217 :: u218 :: u219 :: u220 :: u221 :: u222 :: u223 :: u224 :: u225 :: u226 :: u227 :: u228 :: u229 :: u230 :: u231 :: u232 :: u233 :: u234 :: u235 :: u236 :: u237 :: u238 :: u239 :: u240 :: u241 :: u242 :: u243 :: u244 :: u245 :: u246 :: u247 :: u248 :: u249 :: u250 :: u251 :: u252 :: u253 :: u254 :: u255 :: u256 :: u257 :: u258 :: u259 :: u260 :: u261 :: u262 :: u263 :: u264 :: u265 :: u266 :: u267 :: u268 :: u269 :: u270 :: u271 :: u272 :: u273 :: u274 :: u275 :: u276 :: u277 :: u278 :: u279 :: u280 :: u281 :: u282 :: u283 :: u284 :: u285 :: u286 :: u287 :: u288 :: u289 :: u290 :: u291 :: u292 :: u293 :: u294 :: u295 :: u296 :: u297 :: u298 :: u299 :: u300 :: u301 :: u302 :: u303 :: u304 :: u305 :: u306 :: u307 :: u308 :: u309 :: u310 :: u311 :: u312 :: u313 :: [])), []⟩ w5 := by
  obtain ⟨htl2, hti2⟩ := tiX_len ht
  have hnm : nm.length ≤ s.length := by have := hR5.len; omega
  have hsf2 : t2 <:+ s := (tiX_sfx ht).trans hR5.sf
  have TC := Lib.hid (titleR_c b s tt w5 hR5 (by omega))
  rw [ht] at TC
  have HA1 := Lib.hid (HAS.out.trans (asN_ok ht))
  obtain ⟨A, hA⟩ : ∃ A, A = wsX t2 := ⟨_, rfl⟩
  have hsfA : A <:+ s := by rw [hA]; exact (List.dropWhile_suffix blk).trans hsf2
  have hAl : A.length ≤ t2.length := by rw [hA]; exact wsX_len t2
  have BD := Lib.hid (fun W h => blanksR_c b s t2 0 W h (by omega))
  have HV := Lib.hid (vaX_eq t2)
  rw [← hA] at BD HV h3
  clear hA ht HAS
  have hbn : b < w5.heap.size := by omega
  have hqn : w.heap.size + 1 < w5.heap.size := by omega
  have ER := Lib.hid (show atrX t1 = .error 1 by rw [HA1.out, HV.out, if_pos h3])
  have PC := Lib.hid (fun W h => passR_no [61] (by decide) b s A W h (by omega) h3)
  have BE := Lib.hid (fun W h => blanksR_c b s A 1 W h (by omega))
  obtain ⟨K, hK⟩ : ∃ K, K = s.length - (wsX A).length := ⟨_, rfl⟩
  have hd2 := sfx_drop (show wsX A <:+ s from (List.dropWhile_suffix blk).trans hsfA)
  rw [← hK] at hd2
  have HK := Lib.hid hK
  have SC := Lib.hid (fun W => startsAt_c s [39] K (by omega) (by decide) (by omega) W)
  rw [hd2] at SC
  clear hK hd2 h3
  cases hp : pre [39] (wsX A)
  all_goals
    rw [hp] at SC
    clear hp
    conv => arg 2; whnf
    go_wp2_with (first | (go_at_call 45; (with_reducible refine TC.out.mono ?_); rintro e w6 ⟨hg6, rfl, hR6⟩; have hs6 := hg6.size; have n1 : b ≠ w6.heap.size := (by omega); have n2 : w.heap.size + 1 ≠ w6.heap.size := (by omega); have n3 : w.heap.size ≠ w6.heap.size := (by omega); have V7 := Vy.new (nm := nm) hC5 hO5 hg6 hR6 hbb hqb hz5; obtain ⟨⟨c0, c2⟩, ⟨m0, m1, m2, m3, g1⟩, ⟨z0, z1, z2, z3, y0, y1, y2, y3⟩, ⟨x1, x2, x4⟩⟩ := V7.cells) | (go_at_call 42; (with_reducible refine (BD.out _ V7.rd).mono ?_); rintro e w8 ⟨rfl, hR8, hg8⟩; have V8 := V7.of_gb hg8 hR8; clear c0 c2 m0 m1 m2 m3 g1 z0 z1 z2 z3 y0 y1 y2 y3 x1 x2 x4; obtain ⟨⟨c0, c2⟩, ⟨m0, m1, m2, m3, g1⟩, ⟨z0, z1, z2, z3, y0, y1, y2, y3⟩, ⟨x1, x2, x4⟩⟩ := V8.cells) | (go_at_call 44; (with_reducible refine (PC.out _ V8.rd).mono ?_); rintro e w9 ⟨rfl, hR9, hg9⟩; have V9 := V8.of_gb hg9 hR9; clear c0 c2 m0 m1 m2 m3 g1 z0 z1 z2 z3 y0 y1 y2 y3 x1 x2 x4; obtain ⟨⟨c0, c2⟩, ⟨m0, m1, m2, m3, g1⟩, ⟨z0, z1, z2, z3, y0, y1, y2, y3⟩, ⟨x1, x2, x4⟩⟩ := V9.cells) | (go_at_call 42; (with_reducible refine (BE.out _ V9.rd).mono ?_); rintro e wa ⟨rfl, hRa, hga⟩; have Va := V9.of_gb hga hRa; clear c0 c2 m0 m1 m2 m3 g1 z0 z1 z2 z3 y0 y1 y2 y3 x1 x2 x4; obtain ⟨⟨c0, c2⟩, ⟨m0, m1, m2, m3, g1⟩, ⟨z0, z1, z2, z3, y0, y1, y2, y3⟩, ⟨x1, x2, x4⟩⟩ := Va.cells; have cK := (hRa.at_ HK.out).2.1) | go_quiet (first | (go_at_call 47; (with_reducible exact quiet_eq (SC.out _)))))
    exact hX _ _ _ _ _ _ _ _ _ _ _ _ _ _ _ _ _ _ _ _ _ _ _ _ _ _ _ _ _ _ _ _ _ _ _ _ _ _ _ _ _ _ _ _ _ _ _ _ _ _ _ _ _ _ _ _ _ _ _ _ _ _ _ _ _ _ _ _ _ _ _ _ _ _ _ _ _ _ _ _ _ 1 _ (Va.of_bl ((Bl.refl _).drewN nq)).cx (Va.of_bl ((Bl.refl _).drewN nq)).rd (by decide) ER.out
set_option maxRecDepth 100000 in
set_option maxHeartbeats 8000000 in
theorem ay_quote (w : World) (b base deep : Nat) (s n t1 : List UInt8) (hs : s.length ≤ 1000000) (hbb : b < base) (hqb : w.heap.size + 2 ≤ base) (a1 : Option Addr) (l1 c1 : Nat) (out : List Atr) (j T : Nat) (tt : List UInt8) (HAS : Hid (atrX t1 = asN j tt out)) (htT : tt.length < T) (_hTj : T ≤ j) (hol : out.length + T ≤ s.length) (_HNL : Hid (∀ a ∈ out, a.1.length ≤ s.length)) (w5 : World) (hz5 : base ≤ w5.heap.size) (hC5 : Cx w b n (.slice a1 l1 c1) (.slice none 0 0) w5) (hO5 : AtO w5 base (.slice a1 l1 c1) out) (hR5 : Yr w5 b s tt 0) (nm t2 : List UInt8) (ht : tiX tt = .ok (nm, t2)) (h3 : pre [61] (wsX t2) = true) (q8 : UInt8) (hq8 : q8 = if pre [39] (wsX ((wsX t2).drop 1)) then 39 else 34) (h4 : pre [q8] (wsX ((wsX t2).drop 1)) = false) (u2 u3 u6 u7 u8 u9 u10 u11 u12 u13 u14 u15 u16 u17 u18 u19 u20 u21 u22 u23 u24 u25 u26 u27 u28 u29 u30 u31 u32 u33 u34 u35 u36 u37 u38 u39 u40 u41 u42 u43 u44 u45 u46 u47 u48 u49 u50 u51 u52 u53 u54 u55 u56 u57 u58 u59 u60 u61 u62 u63 u64 u65 u66 u67 u68 u69 u70 u71 u72 u73 u74 u75 u76 u77 u78 u79 u80 u81 u82 u83 u84 u85 u86 u87 u88 u89 u90 u91 u92 u93 u94 u95 u96 u97 u98 u99 u100 u101 u102 u103 u104 u105 u106 u107 u108 u109 u110 u111 u112 u113 u114 u115 u116 u117 u118 u119 u120 u121 u122 u123 u124 u125 u126 u127 u128 u129 u130 u131 u132 u133 u134 u135 u136 u137 u138 u139 u140 u141 u142 u143 u144 u145 u146 u147 u148 u149 u150 u151 u152 u153 u154 u155 u156 u157 u158 u159 u160 u161 u162 u163 u164 u165 u166 u167 u168 u169 u170 u171 u172 u173 u174 u175 u176 u177 u178 u179 u180 u181 u182 u183 u184 u185 u186 u187 u188 u189 u190 u191 u192 u193 u194 u195 u196 u197 u198 u199 u200 u201 u202 u203 u204 u205 u206 u207 u208 u209 u210 u211 u212 u213 u214 u215 u216 u217 u218 u219 u220 u221 u222 u223 u224 u225 u226 u227 u228 u229 u230 u231 u232 u233 u234 u235 u236 u237 u238 u239 u240 u241 u242 u243 u244 u245 u246 u247 u248 u249 u250 u251 u252 u253 u254 u255 u256 u257 u258 u259 u260 u261 u262 u263 u264 u265 u266 u267 u268 u269 u270 u271 u272 u273 u274 u275 u276 u277 u278 u279 u280 u281 u282 u283 u284 u285 u286 u287 u288 u289 u290 u291 u292 u293 u294 u295 u296 u297 u298 u299 u300 u301 u302 u303 u304 u305 u306 u307 u308 u309 u310 u311 u312 u313 : Value) (Q : Exit → Act → World → Prop)
    (hX : ∀ (v6 v7 v8 v77 v78 v79 v80 v81 v82 v83 v84 v85 v86 v87 v88 v89 v90 v91 v92 v93 v94 v95 v96 v97 v98 v99 v100 v101 v102 v103 v104 v105 v106 v107 v108 v109 v110 v111 v112 v113 v114 v115 v116 v117 v118 v119 v120 v121 v122 v123 v124 v125 v126 v127 v128 v129 v130 v131 v132 v133 v134 v135 v136 v137 v138 v139 v140 v141 v142 v143 v144 v145 v146 v147 v148 v149 v150 : Value) (wx : World) (a1 : Option Addr) (l1 c1 : Nat) (e : Int) (t' : List UInt8), Cx w b n (.slice a1 l1 c1) (.slice none 0 0) wx → Yr wx b s t' e → e ≠ 0 → atrX t1 = .error e → Q .ret ⟨(List.toArray (.pointer (some ⟨b, 0, none⟩) :: .int .i64 (deep : Int) :: u2 :: u3 :: .pointer (some ⟨w.heap.size, 0, none⟩) :: .pointer (some ⟨w.heap.size + 1, 0, none⟩) :: v6 :: v7 :: v8 :: u9 :: u10 :: u11 :: u12 :: u13 :: u14 :: u15 :: u16 :: u17 :: u18 :: u19 :: u20 :: u21 :: u22 :: u23 :: u24 :: u25 :: u26 :: u27 :: u28 :: u29 :: u30 :: u31 :: u32 :: u33 :: u34 :: u35 :: u36 :: u37 :: u38 :: u39 :: u40 :: u41 :: u42 :: u43 :: u44 :: u45 :: u46 :: u47 :: u48 :: u49 :: u50 :: u51 :: u52 :: u53 :: u54 :: u55 :: u56 :: u57 :: u58 :: u59 :: u60 :: u61 :: u62 :: u63 :: u64 :: u65 :: u66 :: u67 :: u68 :: u69 :: u70 :: u71 :: u72 :: u73 :: u74 :: u75 :: u76 :: v77 :: v78 :: v79 :: v80 :: v81 :: v82 :: v83 :: v84 :: v85 :: v86 :: v87 :: v88 :: v89 :: v90 :: v91 :: v92 :: v93 :: v94 :: v95 :: v96 :: v97 :: v98 :: v99 :: v100 :: v101 :: v102 :: v103 :: v104 :: v105 :: v106 :: v107 :: v108 :: v109 :: v110 :: v111 :: v112 :: v113 :: v114 :: v115 :: v116 :: v117 :: v118 :: v119 :: v120 :: v121 :: v122 :: v123 :: v124 :: v125 :: v126 :: v127 :: v128 :: v129 :: v130 :: v131 :: v132 :: v133 :: v134 :: v135 :: v136 :: v137 :: v138 :: v139 :: v140 :: v141 :: v142 :: v143 :: v144 :: v145 :: v146 :: v147 :: v148 :: v149 :: v150 :: u151 :: u152 :: u153 :: u154 :: u155 :: u156 :: u157 :: u158 :: u159 :: u160 :: u161 :: u162 :: u163 :: u164 :: u165 :: u166 :: u167 :: u168 :: u169 :: u170 :: u171 :: u172 :: u173 :: u174 :: u175 :: u176 :: u177 :: u178 :: u179 :: u180 :: u181 :: u182 :: u183 :: u184 :: u185 :: u186 :: u187 :: u188 :: u189 :: u190 :: u191 :: u192 :: u193 :: u194 :: u195 :: u196 :: u197 :: u198 :: u199 :: u200 :: u201 :: u202 :: u203 :: u204 :: u205 :: u206 :: u207 :: u208 :: u209 :: u210 :: u211 :: u212 :: u213 :: u214 :: u215 :: u216 :: u217 :: u218 :: u219 :: u220 :: u221 :: u222 :: u223 :: u224 :: u225 :: u226 :: u227 :: u228 :: u229 :: u230 :: u231 :: u232 :: u233 :: u234 :: u235 :: u236 :: u237 :: u238 :: u239 :: u240 :: u241 :: u242 :: u243 :: u244 :: u245 :: u246 :: u247 :: u248 :: u249 :: u250 :: u251 :: u252 :: u253 :: u254 :: u255 :: u256 :: u257 :: u258 :: u259 :: u260 :: u261 :: u262 :: u263 :: u264 :: u265 :: u266 :: u267 :: u268 :: u269 :: u270 :: u271 :: u272 :: u273 :: u274 :: u275 :: u276 :: u277 :: u278 :: u279 :: u280 :: u281 :: u282 :: u283 :: u284 :: u285 :: u286 :: u287 :: u288 :: u289 :: u290 :: u291 :: u292 :: u293 :: u294 :: u295 :: u296 :: u297 :: u298 :: u299 :: u300 :: u301 :: u302 :: u303 :: u304 :: u305 :: u306 :: u307 :: u308 :: u309 :: u310 :: u311 :: u312 :: u313 :: [])), []⟩ ((((wx.setCell ⟨w.heap.size, 0, none⟩ (.string ⟨n.toArray⟩)).setCell ⟨w.heap.size, 1, none⟩ (.slice a1 l1 c1)).setCell ⟨w.heap.size, 2, none⟩ (.string ⟨#[]⟩)).setCell ⟨w.heap.size, 3, none⟩ (.slice none 0 0))) :
    Code.wp Tryz.prog tail10 Q ⟨(List.toArray (.pointer (some ⟨b, 0, none⟩) :: .int .i64 (deep : Int) :: u2 :: u3 :: .pointer (some ⟨w.heap.size, 0, none⟩) :: .pointer (some ⟨w.heap.size + 1, 0, none⟩) :: u6 :: u7 :: u8 :: u9 :: u10 :: u11 :: u12 :: u13 :: u14 :: u15 :: u16 :: u17 :: u18 :: u19 :: u20 :: u21 :: u22 :: u23 :: u24 :: u25 :: u26 :: u27 :: u28 :: u29 :: u30 :: u31 :: u32 :: u33 :: u34 :: u35 :: u36 :: u37 :: u38 :: u39 :: u40 :: u41 :: u42 :: u43 :: u44 :: u45 :: u46 :: u47 :: u48 :: u49 :: u50 :: u51 :: u52 :: u53 :: u54 :: u55 :: u56 :: u57 :: u58 :: u59 :: u60 :: u61 :: u62 :: u63 :: u64 :: u65 :: u66 :: u67 :: u68 :: u69 :: u70 :: u71 :: u72 :: u73 :: u74 :: u75 :: u76 :: u77 :: u78 :: u79 :: u80 :: u81 :: u82 :: u83 :: u84 :: u85 :: u86 :: u87 :: u88 :: u89 :: u90 :: u91 :: u92 :: u93 :: u94 :: u95 :: u96 :: u97 :: u98 :: u99 :: u100 :: u101 :: u102 :: u103 :: u104 :: u105 :: u106 :: u107 :: u108 :: u109 :: u110 :: u111 :: u112 :: u113 :: u114 :: u115 :: u116 :: u117 :: u118 :: u119 :: u120 :: u121 :: u122 :: u123 :: u124 :: u125 :: u126 :: u127 :: u128 :: u129 :: u130 :: u131 :: u132 :: u133 :: u134 :: u135 :: u136 :: u137 :: u138 :: u139 :: u140 :: u141 :: u142 :: u143 :: u144 :: u145 :: u146 :: u147 :: u148 :: u149 :: u150 :: u151 :: u152 :: u153 :: u154 :: u155 :: u156 :: u157 :: u158 :: u159 :: u160 :: u161 :: u162 :: u163 :: u164 :: u165 :: u166 :: u167 :: u168 :: u169 :: u170 :: u171 :: u172 :: u173 :: u174 :: u175 :: u176 :: u177 :: u178 :: u179 :: u180 :: u181 :: u182 :: u183 :: u184 :: u185 :: u186 :: u187 :: u188 :: u189 :: u190 :: u191 :: u192 :: u193 :: u194 :: u195 :: u196 :: u197 :: u198 :: u199 :: u200 :: u201 :: u202 :: u203 :: u204 :: u205 :: u206 :: u207 :: u208 :: u209 :: u210 :: u211 :: u212 :: u213 :: u214 :: u215 :: u216 :: u217 :: u218 :: u219 :: u220 :: u221 :: u222 :: u223 :: u224 :: u225 :: u226 :: u227 :: u228 :: u229 :: u230 :: u231 :: u232 :: u233 :: u234 :: u235 :: u236 :: u237 :: u238 :: u239 :: u240 :: u241 :: u242 :: u243 :: u244 :: u245 :: u246 :: u247 :: u248 :: u249 :: u250 :: u251 :: u252 :: u253 :: u254 :: u255 :: u256 :: u257 :: u258 :: u259 :: u260 :: u261 :: u262 :: u263 :: u264 :: u265 :: u266 :: u267 :: u268 :: u269 :: u270 :: u271 :: u272 :: u273 :: u274 :: u275 :: u276 :: u277 :: u278 :: u279 :: u280 :: u281 :: u282 :: u283 :: u284 :: u285 :: u286 :: u287 :: u288 :: u289 :: u290 :: u291 :: u292 :: u293 :: u294 :: u295 :: u296 :: u297 :: u298 :: u299 :: u300 :: u301 :: u302 :: u303 :: u304 :: u305 :: u306 :: u307 :: u308 :: u309 :: u310 :: u311 :: u312 :: u313 :: [])), []⟩ w5 := by
  obtain ⟨htl2, hti2⟩ := tiX_len ht
  have hnm : nm.length ≤ s.length := by have := hR5.len; omega
  have hsf2 : t2 <:+ s := (tiX_sfx ht).trans hR5.sf
  have TC := Lib.hid (titleR_c b s tt w5 hR5 (by omega))
  rw [ht] at TC
  have HA1 := Lib.hid (HAS.out.trans (asN_ok ht))
  obtain ⟨A, hA⟩ : ∃ A, A = wsX t2 := ⟨_, rfl⟩
  have hsfA : A <:+ s := by rw [hA]; exact (List.dropWhile_suffix blk).trans hsf2
  have hAl : A.length ≤ t2.length := by rw [hA]; exact wsX_len t2
  have BD := Lib.hid (fun W h => blanksR_c b s t2 0 W h (by omega))
  have HV := Lib.hid (vaX_eq t2)
  rw [← hA] at BD HV h3 hq8 h4
  clear hA ht HAS
  have hbn : b < w5.heap.size := by omega
  have hqn : w.heap.size + 1 < w5.heap.size := by omega
  have HV1 := Lib.hid (show vaX t2 = (if pre [q8] (wsX (A.drop 1)) = false then .error 1 else match toS [q8] ((wsX (A.drop 1)).drop 1) with | none => .error 1 | some (v, r) => if 60 ∈ v then .error 1 else if (Tk v).2 then .ok ((Tk v).1, r) else .error 1) by have e := HV.out; rw [if_neg (by simp [h3]), ← hq8] at e; exact e)
  have hA1 := pre_len h3
  simp only [List.length_cons, List.length_nil] at hA1
  have PC := Lib.hid (fun W h => passR_yes [61] (by decide) b s A W h (by omega) h3)
  simp only [List.length_singleton] at PC
  have BE := Lib.hid (fun W h => blanksR_c b s (A.drop 1) 0 W h (by omega))
  obtain ⟨A2, hA2⟩ : ∃ A2, A2 = wsX (A.drop 1) := ⟨_, rfl⟩
  have hsf2 : A2 <:+ s := by rw [hA2]; exact ((List.dropWhile_suffix blk).trans (List.drop_suffix _ _)).trans hsfA
  have hA2l : A2.length ≤ A.length - 1 := by rw [hA2, ← List.length_drop]; exact wsX_len _
  rw [← hA2] at BE HV1 hq8 h4
  obtain ⟨K, hK⟩ : ∃ K, K = s.length - A2.length := ⟨_, rfl⟩
  have hd2 := sfx_drop hsf2
  rw [← hK] at hd2
  have HK := Lib.hid hK
  have SC := Lib.hid (fun W => startsAt_c s [39] K (by omega) (by decide) (by omega) W)
  rw [hd2] at SC
  have HQ8 := Lib.hid hq8
  clear hK hd2 h3 hq8 hA2 HV
  have ER := Lib.hid (show atrX t1 = .error 1 by rw [HA1.out, HV1.out, if_pos h4])
  have PQ := Lib.hid (fun W h => passR_no [q8] (by simp) b s A2 W h (by omega) h4)
  clear h4 HV1 HA1
  conv => arg 2; whnf
  go_upto_if 100 with (first | (go_at_call 45; (with_reducible refine TC.out.mono ?_); rintro e w6 ⟨hg6, rfl, hR6⟩; have hs6 := hg6.size; have n1 : b ≠ w6.heap.size := (by omega); have n2 : w.heap.size + 1 ≠ w6.heap.size := (by omega); have n3 : w.heap.size ≠ w6.heap.size := (by omega); have V7 := Vy.new (nm := nm) hC5 hO5 hg6 hR6 hbb hqb hz5; obtain ⟨⟨c0, c2⟩, ⟨m0, m1, m2, m3, g1⟩, ⟨z0, z1, z2, z3, y0, y1, y2, y3⟩, ⟨x1, x2, x4⟩⟩ := V7.cells) | (go_at_call 42; (with_reducible refine (BD.out _ V7.rd).mono ?_); rintro e w8 ⟨rfl, hR8, hg8⟩; have V8 := V7.of_gb hg8 hR8; clear c0 c2 m0 m1 m2 m3 g1 z0 z1 z2 z3 y0 y1 y2 y3 x1 x2 x4; obtain ⟨⟨c0, c2⟩, ⟨m0, m1, m2, m3, g1⟩, ⟨z0, z1, z2, z3, y0, y1, y2, y3⟩, ⟨x1, x2, x4⟩⟩ := V8.cells) | (go_at_call 44; (with_reducible refine (PC.out _ V8.rd).mono ?_); rintro e w9 ⟨rfl, hR9, hg9⟩; have V9 := V8.of_gb hg9 hR9; clear c0 c2 m0 m1 m2 m3 g1 z0 z1 z2 z3 y0 y1 y2 y3 x1 x2 x4; obtain ⟨⟨c0, c2⟩, ⟨m0, m1, m2, m3, g1⟩, ⟨z0, z1, z2, z3, y0, y1, y2, y3⟩, ⟨x1, x2, x4⟩⟩ := V9.cells) | (go_at_call 42; (with_reducible refine (BE.out _ V9.rd).mono ?_); rintro e wa ⟨rfl, hRa, hga⟩; have Va := V9.of_gb hga hRa; clear c0 c2 m0 m1 m2 m3 g1 z0 z1 z2 z3 y0 y1 y2 y3 x1 x2 x4; obtain ⟨⟨c0, c2⟩, ⟨m0, m1, m2, m3, g1⟩, ⟨z0, z1, z2, z3, y0, y1, y2, y3⟩, ⟨x1, x2, x4⟩⟩ := Va.cells; have cK := (hRa.at_ HK.out).2.1) | go_quiet (first | (go_at_call 47; (with_reducible exact quiet_eq (SC.out _)))))
  go_cut [7] from 92 to 150 (fun v wx => v = .string ⟨#[q8]⟩ ∧ Qt wa wx)
  case first =>
    have hq8 := HQ8.out
    clear SC
    cases hp : pre [39] A2 with
    | true =>
      rw [hp] at hq8
      obtain rfl : q8 = 39 := by simpa using hq8
      clear hp hq8 HQ8
      go_wp2
      go_meet
      case rel => exact ⟨rfl, (Qt.refl _).drewN _⟩
    | false =>
      rw [hp] at hq8
      obtain rfl : q8 = 34 := by simpa using hq8
      clear hp hq8 HQ8
      go_wp2
      go_meet
      case rel => exact ⟨rfl, (Qt.refl _).drewN _⟩
  case rest =>
    obtain ⟨rfl, hqb⟩ := hcut
    obtain ⟨wb, hwb⟩ : ∃ wb : World, wb = wc := ⟨_, rfl⟩
    subst hwb
    have Vb := Va.of_bl hqb.bl
    clear c0 c2 m0 m1 m2 m3 g1 z0 z1 z2 z3 y0 y1 y2 y3 x1 x2 x4; obtain ⟨⟨c0, c2⟩, ⟨m0, m1, m2, m3, g1⟩, ⟨z0, z1, z2, z3, y0, y1, y2, y3⟩, ⟨x1, x2, x4⟩⟩ := Vb.cells
    go_wp2_with (first | (go_at_call 44; (with_reducible refine (PQ.out _ Vb.rd).mono ?_); rintro e wp ⟨rfl, hRp, hgp⟩; have Vp := Vb.of_gb hgp hRp; clear c0 c2 m0 m1 m2 m3 g1 z0 z1 z2 z3 y0 y1 y2 y3 x1 x2 x4; obtain ⟨⟨c0, c2⟩, ⟨m0, m1, m2, m3, g1⟩, ⟨z0, z1, z2, z3, y0, y1, y2, y3⟩, ⟨x1, x2, x4⟩⟩ := Vp.cells))
    exact hX _ _ _ _ _ _ _ _ _ _ _ _ _ _ _ _ _ _ _ _ _ _ _ _ _ _ _ _ _ _ _ _ _ _ _ _ _ _ _ _ _ _ _ _ _ _ _ _ _ _ _ _ _ _ _ _ _ _ _ _ _ _ _ _ _ _ _ _ _ _ _ _ _ _ _ _ _ _ _ _ _ 1 _ Vp.cx Vp.rd (by decide) ER.out
set_option maxRecDepth 100000 in
set_option maxHeartbeats 8000000 in
theorem ay_skip (w : World) (b base deep : Nat) (s n t1 : List UInt8) (hs : s.length ≤ 1000000) (hbb : b < base) (hqb : w.heap.size + 2 ≤ base) (a1 : Option Addr) (l1 c1 : Nat) (out : List Atr) (j T : Nat) (tt : List UInt8) (HAS : Hid (atrX t1 = asN j tt out)) (htT : tt.length < T) (_hTj : T ≤ j) (hol : out.length + T ≤ s.length) (_HNL : Hid (∀ a ∈ out, a.1.length ≤ s.length)) (w5 : World) (hz5 : base ≤ w5.heap.size) (hC5 : Cx w b n (.slice a1 l1 c1) (.slice none 0 0) w5) (hO5 : AtO w5 base (.slice a1 l1 c1) out) (hR5 : Yr w5 b s tt 0) (nm t2 : List UInt8) (ht : tiX tt = .ok (nm, t2)) (h3 : pre [61] (wsX t2) = true) (q8 : UInt8) (hq8 : q8 = if pre [39] (wsX ((wsX t2).drop 1)) then 39 else 34) (h4 : pre [q8] (wsX ((wsX t2).drop 1)) = true) (h5 : toS [q8] ((wsX ((wsX t2).drop 1)).drop 1) = none) (u2 u3 u6 u7 u8 u9 u10 u11 u12 u13 u14 u15 u16 u17 u18 u19 u20 u21 u22 u23 u24 u25 u26 u27 u28 u29 u30 u31 u32 u33 u34 u35 u36 u37 u38 u39 u40 u41 u42 u43 u44 u45 u46 u47 u48 u49 u50 u51 u52 u53 u54 u55 u56 u57 u58 u59 u60 u61 u62 u63 u64 u65 u66 u67 u68 u69 u70 u71 u72 u73 u74 u75 u76 u77 u78 u79 u80 u81 u82 u83 u84 u85 u86 u87 u88 u89 u90 u91 u92 u93 u94 u95 u96 u97 u98 u99 u100 u101 u102 u103 u104 u105 u106 u107 u108 u109 u110 u111 u112 u113 u114 u115 u116 u117 u118 u119 u120 u121 u122 u123 u124 u125 u126 u127 u128 u129 u130 u131 u132 u133 u134 u135 u136 u137 u138 u139 u140 u141 u142 u143 u144 u145 u146 u147 u148 u149 u150 u151 u152 u153 u154 u155 u156 u157 u158 u159 u160 u161 u162 u163 u164 u165 u166 u167 u168 u169 u170 u171 u172 u173 u174 u175 u176 u177 u178 u179 u180 u181 u182 u183 u184 u185 u186 u187 u188 u189 u190 u191 u192 u193 u194 u195 u196 u197 u198 u199 u200 u201 u202 u203 u204 u205 u206 u207 u208 u209 u210 u211 u212 u213 u214 u215 u216 u217 u218 u219 u220 u221 u222 u223 u224 u225 u226 u227 u228 u229 u230 u231 u232 u233 u234 u235 u236 u237 u238 u239 u240 u241 u242 u243 u244 u245 u246 u247 u248 u249 u250 u251 u252 u253 u254 u255 u256 u257 u258 u259 u260 u261 u262 u263 u264 u265 u266 u267 u268 u269 u270 u271 u272 u273 u274 u275 u276 u277 u278 u279 u280 u281 u282 u283 u284 u285 u286 u287 u288 u289 u290 u291 u292 u293 u294 u295 u296 u297 u298 u299 u300 u301 u302 u303 u304 u305 u306 u307 u308 u309 u310 u311 u312 u313 : Value) (Q : Exit → Act → World → Prop)
    (hN : ∀ (v6 v7 v8 v77 v78 v79 v80 v81 v82 v83 v84 v85 v86 v87 v88 v89 v90 v91 v92 v93 v94 v95 v96 v97 v98 v99 v100 v101 v102 v103 v104 v105 v106 v107 v108 v109 v110 v111 v112 v113 v114 v115 v116 v117 v118 v119 v120 v121 v122 v123 v124 v125 v126 v127 v128 v129 v130 v131 v132 v133 v134 v135 v136 v137 v138 v139 v140 v141 v142 v143 v144 v145 v146 v147 v148 v149 v150 : Value) (wx : World), AyRound w b base s n t1 T wx → Q .normal ⟨(List.toArray (.pointer (some ⟨b, 0, none⟩) :: .int .i64 (deep : Int) :: u2 :: u3 :: .pointer (some ⟨w.heap.size, 0, none⟩) :: .pointer (some ⟨w.heap.size + 1, 0, none⟩) :: v6 :: v7 :: v8 :: u9 :: u10 :: u11 :: u12 :: u13 :: u14 :: u15 :: u16 :: u17 :: u18 :: u19 :: u20 :: u21 :: u22 :: u23 :: u24 :: u25 :: u26 :: u27 :: u28 :: u29 :: u30 :: u31 :: u32 :: u33 :: u34 :: u35 :: u36 :: u37 :: u38 :: u39 :: u40 :: u41 :: u42 :: u43 :: u44 :: u45 :: u46 :: u47 :: u48 :: u49 :: u50 :: u51 :: u52 :: u53 :: u54 :: u55 :: u56 :: u57 :: u58 :: u59 :: u60 :: u61 :: u62 :: u63 :: u64 :: u65 :: u66 :: u67 :: u68 :: u69 :: u70 :: u71 :: u72 :: u73 :: u74 :: u75 :: u76 :: v77 :: v78 :: v79 :: v80 :: v81 :: v82 :: v83 :: v84 :: v85 :: v86 :: v87 :: v88 :: v89 :: v90 :: v91 :: v92 :: v93 :: v94 :: v95 :: v96 :: v97 :: v98 :: v99 :: v100 :: v101 :: v102 :: v103 :: v104 :: v105 :: v106 :: v107 :: v108 :: v109 :: v110 :: v111 :: v112 :: v113 :: v114 :: v115 :: v116 :: v117 :: v118 :: v119 :: v120 :: v121 :: v122 :: v123 :: v124 :: v125 :: v126 :: v127 :: v128 :: v129 :: v130 :: v131 :: v132 :: v133 :: v134 :: v135 :: v136 :: v137 :: v138 :: v139 :: v140 :: v141 :: v142 :: v143 :: v144 :: v145 :: v146 :: v147 :: v148 :: v149 :: v150 :: u151 :: u152 :: u153 :: u154 :: u155 :: u156 :: u157 :: u158 :: u159 :: u160 :: u161 :: u162 :: u163 :: u164 :: u165 :: u166 :: u167 :: u168 :: u169 :: u170 :: u171 :: u172 :: u173 :: u174 :: u175 :: u176 :: u177 :: u178 :: u179 :: u180 :: u181 :: u182 :: u183 :: u184 :: u185 :: u186 :: u187 :: u188 :: u189 :: u190 :: u191 :: u192 :: u193 :: u194 :: u195 :: u196 :: u197 :: u198 :: u199 :: u200 :: u201 :: u202 :: u203 :: u204 :: u205 :: u206 :: u207 :: u208 :: u209 :: u210 :: u211 :: u212 :: u213 :: u214 :: u215 :: u216 :: u217 :: u218 :: u219 :: u220 :: u221 :: u222 :: u223 :: u224 :: u225 :: u226 :: u227 :: u228 :: u229 :: u230 :: u231 :: u232 :: u233 :: u234 :: u235 :: u236 :: u237 :: u238 :: u239 :: u240 :: u241 :: u242 :: u243 :: u244 :: u245 :: u246 :: u247 :: u248 :: u249 :: u250 :: u251 :: u252 :: u253 :: u254 :: u255 :: u256 :: u257 :: u258 :: u259 :: u260 :: u261 :: u262 :: u263 :: u264 :: u265 :: u266 :: u267 :: u268 :: u269 :: u270 :: u271 :: u272 :: u273 :: u274 :: u275 :: u276 :: u277 :: u278 :: u279 :: u280 :: u281 :: u282 :: u283 :: u284 :: u285 :: u286 :: u287 :: u288 :: u289 :: u290 :: u291 :: u292 :: u293 :: u294 :: u295 :: u296 :: u297 :: u298 :: u299 :: u300 :: u301 :: u302 :: u303 :: u304 :: u305 :: u306 :: u307 :: u308 :: u309 :: u310 :: u311 :: u312 :: u313 :: [])), []⟩ wx) :
    Code.wp Tryz.prog tail10 Q ⟨(List.toArray (.pointer (some ⟨b, 0, none⟩) :: .int .i64 (deep : Int) :: u2 :: u3 :: .pointer (some ⟨w.heap.size, 0, none⟩) :: .pointer (some ⟨w.heap.size + 1, 0, none⟩) :: u6 :: u7 :: u8 :: u9 :: u10 :: u11 :: u12 :: u13 :: u14 :: u15 :: u16 :: u17 :: u18 :: u19 :: u20 :: u21 :: u22 :: u23 :: u24 :: u25 :: u26 :: u27 :: u28 :: u29 :: u30 :: u31 :: u32 :: u33 :: u34 :: u35 :: u36 :: u37 :: u38 :: u39 :: u40 :: u41 :: u42 :: u43 :: u44 :: u45 :: u46 :: u47 :: u48 :: u49 :: u50 :: u51 :: u52 :: u53 :: u54 :: u55 :: u56 :: u57 :: u58 :: u59 :: u60 :: u61 :: u62 :: u63 :: u64 :: u65 :: u66 :: u67 :: u68 :: u69 :: u70 :: u71 :: u72 :: u73 :: u74 :: u75 :: u76 :: u77 :: u78 :: u79 :: u80 :: u81 :: u82 :: u83 :: u84 :: u85 :: u86 :: u87 :: u88 :: u89 :: u90 :: u91 :: u92 :: u93 :: u94 :: u95 :: u96 :: u97 :: u98 :: u99 :: u100 :: u101 :: u102 :: u103 :: u104 :: u105 :: u106 :: u107 :: u108 :: u109 :: u110 :: u111 :: u112 :: u113 :: u114 :: u115 :: u116 :: u117 :: u118 :: u119 :: u120 :: u121 :: u122 :: u123 :: u124 :: u125 :: u126 :: u127 :: u128 :: u129 :: u130 :: u131 :: u132 :: u133 :: u134 :: u135 :: u136 :: u137 :: u138 :: u139 :: u140 :: u141 :: u142 :: u143 :: u144 :: u145 :: u146 :: u147 :: u148 :: u149 :: u150 :: u151 :: u152 :: u153 :: u154 :: u155 :: u156 :: u157 :: u158 :: u159 :: u160 :: u161 :: u162 :: u163 :: u164 :: u165 :: u166 :: u167 :: u168 :: u169 :: u170 :: u171 :: u172 :: u173 :: u174 :: u175 :: u176 :: u177 :: u178 :: u179 :: u180 :: u181 :: u182 :: u183 :: u184 :: u185 :: u186 :: u187 :: u188 :: u189 :: u190 :: u191 :: u192 :: u193 :: u194 :: u195 :: u196 :: u197 :: u198 :: u199 :: u200 :: u201 :: u202 :: u203 :: u204 :: u205 :: u206 :: u207 :: u208 :: u209 :: u210 :: u211 :: u212 :: u213 :: u214 :: u215 :: u216 :: u217 :: u218 :: u219 :: u220 :: u221 :: u222 :: u223 :: u224 :: u225 :: u226 :: u227 :: u228 :: u229 :: u230 :: u231 :: u232 :: u233 :: u234 :: u235 :: u236 :: u237 :: u238 :: u239 :: u240 :: u241 :: u242 :: u243 :: u244 :: u245 :: u246 :: u247 :: u248 :: u249 :: u250 :: u251 :: u252 :: u253 :: u254 :: u255 :: u256 :: u257 :: u258 :: u259 :: u260 :: u261 :: u262 :: u263 :: u264 :: u265 :: u266 :: u267 :: u268 :: u269 :: u270 :: u271 :: u272 :: u273 :: u274 :: u275 :: u276 :: u277 :: u278 :: u279 :: u280 :: u281 :: u282 :: u283 :: u284 :: u285 :: u286 :: u287 :: u288 :: u289 :: u290 :: u291 :: u292 :: u293 :: u294 :: u295 :: u296 :: u297 :: u298 :: u299 :: u300 :: u301 :: u302 :: u303 :: u304 :: u305 :: u306 :: u307 :: u308 :: u309 :: u310 :: u311 :: u312 :: u313 :: [])), []⟩ w5 := by
  obtain ⟨htl2, hti2⟩ := tiX_len ht
  have hnm : nm.length ≤ s.length := by have := hR5.len; omega
  have hsf2 : t2 <:+ s := (tiX_sfx ht).trans hR5.sf
  have TC := Lib.hid (titleR_c b s tt w5 hR5 (by omega))
  rw [ht] at TC
  have HA1 := Lib.hid (HAS.out.trans (asN_ok ht))
  obtain ⟨A, hA⟩ : ∃ A, A = wsX t2 := ⟨_, rfl⟩
  have hsfA : A <:+ s := by rw [hA]; exact (List.dropWhile_suffix blk).trans hsf2
  have hAl : A.length ≤ t2.length := by rw [hA]; exact wsX_len t2
  have BD := Lib.hid (fun W h => blanksR_c b s t2 0 W h (by omega))
  have HV := Lib.hid (vaX_eq t2)
  rw [← hA] at BD HV h3 hq8 h4 h5
  clear hA ht HAS
  have hbn : b < w5.heap.size := by omega
  have hqn : w.heap.size + 1 < w5.heap.size := by omega
  have HV1 := Lib.hid (show vaX t2 = (if pre [q8] (wsX (A.drop 1)) = false then .error 1 else match toS [q8] ((wsX (A.drop 1)).drop 1) with | none => .error 1 | some (v, r) => if 60 ∈ v then .error 1 else if (Tk v).2 then .ok ((Tk v).1, r) else .error 1) by have e := HV.out; rw [if_neg (by simp [h3]), ← hq8] at e; exact e)
  have hA1 := pre_len h3
  simp only [List.length_cons, List.length_nil] at hA1
  have PC := Lib.hid (fun W h => passR_yes [61] (by decide) b s A W h (by omega) h3)
  simp only [List.length_singleton] at PC
  have BE := Lib.hid (fun W h => blanksR_c b s (A.drop 1) 0 W h (by omega))
  obtain ⟨A2, hA2⟩ : ∃ A2, A2 = wsX (A.drop 1) := ⟨_, rfl⟩
  have hsf2 : A2 <:+ s := by rw [hA2]; exact ((List.dropWhile_suffix blk).trans (List.drop_suffix _ _)).trans hsfA
  have hA2l : A2.length ≤ A.length - 1 := by rw [hA2, ← List.length_drop]; exact wsX_len _
  rw [← hA2] at BE HV1 hq8 h4 h5
  obtain ⟨K, hK⟩ : ∃ K, K = s.length - A2.length := ⟨_, rfl⟩
  have hd2 := sfx_drop hsf2
  rw [← hK] at hd2
  have HK := Lib.hid hK
  have SC := Lib.hid (fun W => startsAt_c s [39] K (by omega) (by decide) (by omega) W)
  rw [hd2] at SC
  have HQ8 := Lib.hid hq8
  clear hK hd2 h3 hq8 hA2 HV
  have HV2 := Lib.hid (show vaX t2 = (match toS [q8] (A2.drop 1) with | none => .error 1 | some (v, r) => if 60 ∈ v then .error 1 else if (Tk v).2 then .ok ((Tk v).1, r) else .error 1) from by have e := HV1.out; rw [if_neg (by simp [h4])] at e; exact e)
  have hA3 := pre_len h4
  simp only [List.length_cons, List.length_nil] at hA3
  have PQ := Lib.hid (fun W h => passR_yes [q8] (by simp) b s A2 W h (by omega) h4)
  simp only [List.length_singleton] at PQ
  clear h4 HV1
  obtain ⟨i0, hi, hz0, hz1, hz2⟩ := info_parts Tryz.infoAtr
  have hnn : l1 = out.length := by obtain ⟨_, _, e, -⟩ := own_shp hO5; simp only [Value.slice.injEq] at e; exact e.2.1
  subst hnn
  have ER := Lib.hid (show atrX t1 = .error 1 by rw [HA1.out, HV2.out, h5])
  have SKC := Lib.hid (fun W h => skipR_no [q8] (by simp) (by simp) b s (A2.drop 1) W h (by omega) h5)
  have NXC := Lib.hid (fun W => ltIn_c [] (by decide) W)
  rw [nx_no [] (by simp)] at NXC
  clear h5 HV2 HA1
  conv => arg 2; whnf
  go_upto_if 100 with (first | (go_at_call 45; (with_reducible refine TC.out.mono ?_); rintro e w6 ⟨hg6, rfl, hR6⟩; have hs6 := hg6.size; have n1 : b ≠ w6.heap.size := (by omega); have n2 : w.heap.size + 1 ≠ w6.heap.size := (by omega); have n3 : w.heap.size ≠ w6.heap.size := (by omega); have V7 := Vy.new (nm := nm) hC5 hO5 hg6 hR6 hbb hqb hz5; obtain ⟨⟨c0, c2⟩, ⟨m0, m1, m2, m3, g1⟩, ⟨z0, z1, z2, z3, y0, y1, y2, y3⟩, ⟨x1, x2, x4⟩⟩ := V7.cells) | (go_at_call 42; (with_reducible refine (BD.out _ V7.rd).mono ?_); rintro e w8 ⟨rfl, hR8, hg8⟩; have V8 := V7.of_gb hg8 hR8; clear c0 c2 m0 m1 m2 m3 g1 z0 z1 z2 z3 y0 y1 y2 y3 x1 x2 x4; obtain ⟨⟨c0, c2⟩, ⟨m0, m1, m2, m3, g1⟩, ⟨z0, z1, z2, z3, y0, y1, y2, y3⟩, ⟨x1, x2, x4⟩⟩ := V8.cells) | (go_at_call 44; (with_reducible refine (PC.out _ V8.rd).mono ?_); rintro e w9 ⟨rfl, hR9, hg9⟩; have V9 := V8.of_gb hg9 hR9; clear c0 c2 m0 m1 m2 m3 g1 z0 z1 z2 z3 y0 y1 y2 y3 x1 x2 x4; obtain ⟨⟨c0, c2⟩, ⟨m0, m1, m2, m3, g1⟩, ⟨z0, z1, z2, z3, y0, y1, y2, y3⟩, ⟨x1, x2, x4⟩⟩ := V9.cells) | (go_at_call 42; (with_reducible refine (BE.out _ V9.rd).mono ?_); rintro e wa ⟨rfl, hRa, hga⟩; have Va := V9.of_gb hga hRa; clear c0 c2 m0 m1 m2 m3 g1 z0 z1 z2 z3 y0 y1 y2 y3 x1 x2 x4; obtain ⟨⟨c0, c2⟩, ⟨m0, m1, m2, m3, g1⟩, ⟨z0, z1, z2, z3, y0, y1, y2, y3⟩, ⟨x1, x2, x4⟩⟩ := Va.cells; have cK := (hRa.at_ HK.out).2.1) | go_quiet (first | (go_at_call 47; (with_reducible exact quiet_eq (SC.out _)))))
  go_cut [7] from 92 to 150 (fun v wx => v = .string ⟨#[q8]⟩ ∧ Qt wa wx)
  case first =>
    have hq8 := HQ8.out
    clear SC
    cases hp : pre [39] A2 with
    | true =>
      rw [hp] at hq8
      obtain rfl : q8 = 39 := by simpa using hq8
      clear hp hq8 HQ8
      go_wp2
      go_meet
      case rel => exact ⟨rfl, (Qt.refl _).drewN _⟩
    | false =>
      rw [hp] at hq8
      obtain rfl : q8 = 34 := by simpa using hq8
      clear hp hq8 HQ8
      go_wp2
      go_meet
      case rel => exact ⟨rfl, (Qt.refl _).drewN _⟩
  case rest =>
    obtain ⟨rfl, hqb⟩ := hcut
    obtain ⟨wb, hwb⟩ : ∃ wb : World, wb = wc := ⟨_, rfl⟩
    subst hwb
    have Vb := Va.of_bl hqb.bl
    clear c0 c2 m0 m1 m2 m3 g1 z0 z1 z2 z3 y0 y1 y2 y3 x1 x2 x4; obtain ⟨⟨c0, c2⟩, ⟨m0, m1, m2, m3, g1⟩, ⟨z0, z1, z2, z3, y0, y1, y2, y3⟩, ⟨x1, x2, x4⟩⟩ := Vb.cells
    go_wp2_with (first | (go_at_call 44; (with_reducible refine (PQ.out _ Vb.rd).mono ?_); rintro e wp ⟨rfl, hRp, hgp⟩; have Vp := Vb.of_gb hgp hRp; clear c0 c2 m0 m1 m2 m3 g1 z0 z1 z2 z3 y0 y1 y2 y3 x1 x2 x4; obtain ⟨⟨c0, c2⟩, ⟨m0, m1, m2, m3, g1⟩, ⟨z0, z1, z2, z3, y0, y1, y2, y3⟩, ⟨x1, x2, x4⟩⟩ := Vp.cells) | (go_at_call 48; (with_reducible refine (SKC.out _ Vp.rd).mono ?_); rintro e wk ⟨rfl, hRk, hgk⟩; have Vk := Vp.of_gb hgk hRk; clear c0 c2 m0 m1 m2 m3 g1 z0 z1 z2 z3 y0 y1 y2 y3 x1 x2 x4; obtain ⟨⟨c0, c2⟩, ⟨m0, m1, m2, m3, g1⟩, ⟨z0, z1, z2, z3, y0, y1, y2, y3⟩, ⟨x1, x2, x4⟩⟩ := Vk.cells) | (go_at_call 49; (with_reducible refine (NXC.out _).mono ?_); rintro e wn ⟨rfl, rfl⟩) | (at_builtin; refine Hid.out ?_))
    refine Lib.hid ?_
    refine wpList_append_own _ rfl _ _ 22 rfl base 39 i0 (.agg #[.string ⟨#[]⟩, .string ⟨#[]⟩]) 2 32 Tryz.underlying22 hi hz0 hz1 hz2 rfl (by decide) (.slice a1 out.length c1) out.length (atC out) rfl (World.ownsRow.alloc Vk.own _) ⟨wk.heap.size, 0, none⟩ 1 1 [.string ⟨nm.toArray⟩, .string ⟨([] : List UInt8).toArray⟩] rfl rfl (by have h9 := new_cells (wk) #[.string ⟨nm.toArray⟩, .string ⟨([] : List UInt8).toArray⟩] 39; simpa using h9) (by simp [Value.oneCell']) (by unfold maxLen; omega) (by omega) (by have := Vk.size; simp at this ⊢; omega) ?_
    intro v' wz hown' hgrow _
    obtain ⟨a2, l2, c2, rfl, hCz, hC9, hO9, hRz, hR9, hz9⟩ := Vk.app (val := ([] : List UInt8)) hown' hgrow
    clear hown' hgrow
    obtain ⟨m0, m1, m2, m3, g0, g1, g2, g3⟩ := hCz.nb.cells
    have k2 := hRz.rk.cells.2.2.1
    obtain ⟨e0, e1, e2, e3, -⟩ := hC9.nb.cells
    have k9 := hR9.rk.cells.2.2.1
    go_wp2
    exact ay_err hz9 hC9 hR9 (by decide) ER.out
set_option maxRecDepth 100000 in
set_option maxHeartbeats 8000000 in
theorem ay_lt (w : World) (b base deep : Nat) (s n t1 : List UInt8) (hs : s.length ≤ 1000000) (hbb : b < base) (hqb : w.heap.size + 2 ≤ base) (a1 : Option Addr) (l1 c1 : Nat) (out : List Atr) (j T : Nat) (tt : List UInt8) (HAS : Hid (atrX t1 = asN j tt out)) (htT : tt.length < T) (_hTj : T ≤ j) (hol : out.length + T ≤ s.length) (_HNL : Hid (∀ a ∈ out, a.1.length ≤ s.length)) (w5 : World) (hz5 : base ≤ w5.heap.size) (hC5 : Cx w b n (.slice a1 l1 c1) (.slice none 0 0) w5) (hO5 : AtO w5 base (.slice a1 l1 c1) out) (hR5 : Yr w5 b s tt 0) (nm t2 : List UInt8) (ht : tiX tt = .ok (nm, t2)) (h3 : pre [61] (wsX t2) = true) (q8 : UInt8) (hq8 : q8 = if pre [39] (wsX ((wsX t2).drop 1)) then 39 else 34) (h4 : pre [q8] (wsX ((wsX t2).drop 1)) = true) (v u : List UInt8) (h5 : toS [q8] ((wsX ((wsX t2).drop 1)).drop 1) = some (v, u)) (h6 : 60 ∈ v) (u2 u3 u6 u7 u8 u9 u10 u11 u12 u13 u14 u15 u16 u17 u18 u19 u20 u21 u22 u23 u24 u25 u26 u27 u28 u29 u30 u31 u32 u33 u34 u35 u36 u37 u38 u39 u40 u41 u42 u43 u44 u45 u46 u47 u48 u49 u50 u51 u52 u53 u54 u55 u56 u57 u58 u59 u60 u61 u62 u63 u64 u65 u66 u67 u68 u69 u70 u71 u72 u73 u74 u75 u76 u77 u78 u79 u80 u81 u82 u83 u84 u85 u86 u87 u88 u89 u90 u91 u92 u93 u94 u95 u96 u97 u98 u99 u100 u101 u102 u103 u104 u105 u106 u107 u108 u109 u110 u111 u112 u113 u114 u115 u116 u117 u118 u119 u120 u121 u122 u123 u124 u125 u126 u127 u128 u129 u130 u131 u132 u133 u134 u135 u136 u137 u138 u139 u140 u141 u142 u143 u144 u145 u146 u147 u148 u149 u150 u151 u152 u153 u154 u155 u156 u157 u158 u159 u160 u161 u162 u163 u164 u165 u166 u167 u168 u169 u170 u171 u172 u173 u174 u175 u176 u177 u178 u179 u180 u181 u182 u183 u184 u185 u186 u187 u188 u189 u190 u191 u192 u193 u194 u195 u196 u197 u198 u199 u200 u201 u202 u203 u204 u205 u206 u207 u208 u209 u210 u211 u212 u213 u214 u215 u216 u217 u218 u219 u220 u221 u222 u223 u224 u225 u226 u227 u228 u229 u230 u231 u232 u233 u234 u235 u236 u237 u238 u239 u240 u241 u242 u243 u244 u245 u246 u247 u248 u249 u250 u251 u252 u253 u254 u255 u256 u257 u258 u259 u260 u261 u262 u263 u264 u265 u266 u267 u268 u269 u270 u271 u272 u273 u274 u275 u276 u277 u278 u279 u280 u281 u282 u283 u284 u285 u286 u287 u288 u289 u290 u291 u292 u293 u294 u295 u296 u297 u298 u299 u300 u301 u302 u303 u304 u305 u306 u307 u308 u309 u310 u311 u312 u313 : Value) (Q : Exit → Act → World → Prop)
    (hN : ∀ (v6 v7 v8 v77 v78 v79 v80 v81 v82 v83 v84 v85 v86 v87 v88 v89 v90 v91 v92 v93 v94 v95 v96 v97 v98 v99 v100 v101 v102 v103 v104 v105 v106 v107 v108 v109 v110 v111 v112 v113 v114 v115 v116 v117 v118 v119 v120 v121 v122 v123 v124 v125 v126 v127 v128 v129 v130 v131 v132 v133 v134 v135 v136 v137 v138 v139 v140 v141 v142 v143 v144 v145 v146 v147 v148 v149 v150 : Value) (wx : World), AyRound w b base s n t1 T wx → Q .normal ⟨(List.toArray (.pointer (some ⟨b, 0, none⟩) :: .int .i64 (deep : Int) :: u2 :: u3 :: .pointer (some ⟨w.heap.size, 0, none⟩) :: .pointer (some ⟨w.heap.size + 1, 0, none⟩) :: v6 :: v7 :: v8 :: u9 :: u10 :: u11 :: u12 :: u13 :: u14 :: u15 :: u16 :: u17 :: u18 :: u19 :: u20 :: u21 :: u22 :: u23 :: u24 :: u25 :: u26 :: u27 :: u28 :: u29 :: u30 :: u31 :: u32 :: u33 :: u34 :: u35 :: u36 :: u37 :: u38 :: u39 :: u40 :: u41 :: u42 :: u43 :: u44 :: u45 :: u46 :: u47 :: u48 :: u49 :: u50 :: u51 :: u52 :: u53 :: u54 :: u55 :: u56 :: u57 :: u58 :: u59 :: u60 :: u61 :: u62 :: u63 :: u64 :: u65 :: u66 :: u67 :: u68 :: u69 :: u70 :: u71 :: u72 :: u73 :: u74 :: u75 :: u76 :: v77 :: v78 :: v79 :: v80 :: v81 :: v82 :: v83 :: v84 :: v85 :: v86 :: v87 :: v88 :: v89 :: v90 :: v91 :: v92 :: v93 :: v94 :: v95 :: v96 :: v97 :: v98 :: v99 :: v100 :: v101 :: v102 :: v103 :: v104 :: v105 :: v106 :: v107 :: v108 :: v109 :: v110 :: v111 :: v112 :: v113 :: v114 :: v115 :: v116 :: v117 :: v118 :: v119 :: v120 :: v121 :: v122 :: v123 :: v124 :: v125 :: v126 :: v127 :: v128 :: v129 :: v130 :: v131 :: v132 :: v133 :: v134 :: v135 :: v136 :: v137 :: v138 :: v139 :: v140 :: v141 :: v142 :: v143 :: v144 :: v145 :: v146 :: v147 :: v148 :: v149 :: v150 :: u151 :: u152 :: u153 :: u154 :: u155 :: u156 :: u157 :: u158 :: u159 :: u160 :: u161 :: u162 :: u163 :: u164 :: u165 :: u166 :: u167 :: u168 :: u169 :: u170 :: u171 :: u172 :: u173 :: u174 :: u175 :: u176 :: u177 :: u178 :: u179 :: u180 :: u181 :: u182 :: u183 :: u184 :: u185 :: u186 :: u187 :: u188 :: u189 :: u190 :: u191 :: u192 :: u193 :: u194 :: u195 :: u196 :: u197 :: u198 :: u199 :: u200 :: u201 :: u202 :: u203 :: u204 :: u205 :: u206 :: u207 :: u208 :: u209 :: u210 :: u211 :: u212 :: u213 :: u214 :: u215 :: u216 :: u217 :: u218 :: u219 :: u220 :: u221 :: u222 :: u223 :: u224 :: u225 :: u226 :: u227 :: u228 :: u229 :: u230 :: u231 :: u232 :: u233 :: u234 :: u235 :: u236 :: u237 :: u238 :: u239 :: u240 :: u241 :: u242 :: u243 :: u244 :: u245 :: u246 :: u247 :: u248 :: u249 :: u250 :: u251 :: u252 :: u253 :: u254 :: u255 :: u256 :: u257 :: u258 :: u259 :: u260 :: u261 :: u262 :: u263 :: u264 :: u265 :: u266 :: u267 :: u268 :: u269 :: u270 :: u271 :: u272 :: u273 :: u274 :: u275 :: u276 :: u277 :: u278 :: u279 :: u280 :: u281 :: u282 :: u283 :: u284 :: u285 :: u286 :: u287 :: u288 :: u289 :: u290 :: u291 :: u292 :: u293 :: u294 :: u295 :: u296 :: u297 :: u298 :: u299 :: u300 :: u301 :: u302 :: u303 :: u304 :: u305 :: u306 :: u307 :: u308 :: u309 :: u310 :: u311 :: u312 :: u313 :: [])), []⟩ wx) :
    Code.wp Tryz.prog tail10 Q ⟨(List.toArray (.pointer (some ⟨b, 0, none⟩) :: .int .i64 (deep : Int) :: u2 :: u3 :: .pointer (some ⟨w.heap.size, 0, none⟩) :: .pointer (some ⟨w.heap.size + 1, 0, none⟩) :: u6 :: u7 :: u8 :: u9 :: u10 :: u11 :: u12 :: u13 :: u14 :: u15 :: u16 :: u17 :: u18 :: u19 :: u20 :: u21 :: u22 :: u23 :: u24 :: u25 :: u26 :: u27 :: u28 :: u29 :: u30 :: u31 :: u32 :: u33 :: u34 :: u35 :: u36 :: u37 :: u38 :: u39 :: u40 :: u41 :: u42 :: u43 :: u44 :: u45 :: u46 :: u47 :: u48 :: u49 :: u50 :: u51 :: u52 :: u53 :: u54 :: u55 :: u56 :: u57 :: u58 :: u59 :: u60 :: u61 :: u62 :: u63 :: u64 :: u65 :: u66 :: u67 :: u68 :: u69 :: u70 :: u71 :: u72 :: u73 :: u74 :: u75 :: u76 :: u77 :: u78 :: u79 :: u80 :: u81 :: u82 :: u83 :: u84 :: u85 :: u86 :: u87 :: u88 :: u89 :: u90 :: u91 :: u92 :: u93 :: u94 :: u95 :: u96 :: u97 :: u98 :: u99 :: u100 :: u101 :: u102 :: u103 :: u104 :: u105 :: u106 :: u107 :: u108 :: u109 :: u110 :: u111 :: u112 :: u113 :: u114 :: u115 :: u116 :: u117 :: u118 :: u119 :: u120 :: u121 :: u122 :: u123 :: u124 :: u125 :: u126 :: u127 :: u128 :: u129 :: u130 :: u131 :: u132 :: u133 :: u134 :: u135 :: u136 :: u137 :: u138 :: u139 :: u140 :: u141 :: u142 :: u143 :: u144 :: u145 :: u146 :: u147 :: u148 :: u149 :: u150 :: u151 :: u152 :: u153 :: u154 :: u155 :: u156 :: u157 :: u158 :: u159 :: u160 :: u161 :: u162 :: u163 :: u164 :: u165 :: u166 :: u167 :: u168 :: u169 :: u170 :: u171 :: u172 :: u173 :: u174 :: u175 :: u176 :: u177 :: u178 :: u179 :: u180 :: u181 :: u182 :: u183 :: u184 :: u185 :: u186 :: u187 :: u188 :: u189 :: u190 :: u191 :: u192 :: u193 :: u194 :: u195 :: u196 :: u197 :: u198 :: u199 :: u200 :: u201 :: u202 :: u203 :: u204 :: u205 :: u206 :: u207 :: u208 :: u209 :: u210 :: u211 :: u212 :: u213 :: u214 :: u215 :: u216 :: u217 :: u218 :: u219 :: u220 :: u221 :: u222 :: u223 :: u224 :: u225 :: u226 :: u227 :: u228 :: u229 :: u230 :: u231 :: u232 :: u233 :: u234 :: u235 :: u236 :: u237 :: u238 :: u239 :: u240 :: u241 :: u242 :: u243 :: u244 :: u245 :: u246 :: u247 :: u248 :: u249 :: u250 :: u251 :: u252 :: u253 :: u254 :: u255 :: u256 :: u257 :: u258 :: u259 :: u260 :: u261 :: u262 :: u263 :: u264 :: u265 :: u266 :: u267 :: u268 :: u269 :: u270 :: u271 :: u272 :: u273 :: u274 :: u275 :: u276 :: u277 :: u278 :: u279 :: u280 :: u281 :: u282 :: u283 :: u284 :: u285 :: u286 :: u287 :: u288 :: u289 :: u290 :: u291 :: u292 :: u293 :: u294 :: u295 :: u296 :: u297 :: u298 :: u299 :: u300 :: u301 :: u302 :: u303 :: u304 :: u305 :: u306 :: u307 :: u308 :: u309 :: u310 :: u311 :: u312 :: u313 :: [])), []⟩ w5 := by
  obtain ⟨htl2, hti2⟩ := tiX_len ht
  have hnm : nm.length ≤ s.length := by have := hR5.len; omega
  have hsf2 : t2 <:+ s := (tiX_sfx ht).trans hR5.sf
  have TC := Lib.hid (titleR_c b s tt w5 hR5 (by omega))
  rw [ht] at TC
  have HA1 := Lib.hid (HAS.out.trans (asN_ok ht))
  obtain ⟨A, hA⟩ : ∃ A, A = wsX t2 := ⟨_, rfl⟩
  have hsfA : A <:+ s := by rw [hA]; exact (List.dropWhile_suffix blk).trans hsf2
  have hAl : A.length ≤ t2.length := by rw [hA]; exact wsX_len t2
  have BD := Lib.hid (fun W h => blanksR_c b s t2 0 W h (by omega))
  have HV := Lib.hid (vaX_eq t2)
  rw [← hA] at BD HV h3 hq8 h4 h5
  clear hA ht HAS
  have hbn : b < w5.heap.size := by omega
  have hqn : w.heap.size + 1 < w5.heap.size := by omega
  have HV1 := Lib.hid (show vaX t2 = (if pre [q8] (wsX (A.drop 1)) = false then .error 1 else match toS [q8] ((wsX (A.drop 1)).drop 1) with | none => .error 1 | some (v, r) => if 60 ∈ v then .error 1 else if (Tk v).2 then .ok ((Tk v).1, r) else .error 1) by have e := HV.out; rw [if_neg (by simp [h3]), ← hq8] at e; exact e)
  have hA1 := pre_len h3
  simp only [List.length_cons, List.length_nil] at hA1
  have PC := Lib.hid (fun W h => passR_yes [61] (by decide) b s A W h (by omega) h3)
  simp only [List.length_singleton] at PC
  have BE := Lib.hid (fun W h => blanksR_c b s (A.drop 1) 0 W h (by omega))
  obtain ⟨A2, hA2⟩ : ∃ A2, A2 = wsX (A.drop 1) := ⟨_, rfl⟩
  have hsf2 : A2 <:+ s := by rw [hA2]; exact ((List.dropWhile_suffix blk).trans (List.drop_suffix _ _)).trans hsfA
  have hA2l : A2.length ≤ A.length - 1 := by rw [hA2, ← List.length_drop]; exact wsX_len _
  rw [← hA2] at BE HV1 hq8 h4 h5
  obtain ⟨K, hK⟩ : ∃ K, K = s.length - A2.length := ⟨_, rfl⟩
  have hd2 := sfx_drop hsf2
  rw [← hK] at hd2
  have HK := Lib.hid hK
  have SC := Lib.hid (fun W => startsAt_c s [39] K (by omega) (by decide) (by omega) W)
  rw [hd2] at SC
  have HQ8 := Lib.hid hq8
  clear hK hd2 h3 hq8 hA2 HV
  have HV2 := Lib.hid (show vaX t2 = (match toS [q8] (A2.drop 1) with | none => .error 1 | some (v, r) => if 60 ∈ v then .error 1 else if (Tk v).2 then .ok ((Tk v).1, r) else .error 1) from by have e := HV1.out; rw [if_neg (by simp [h4])] at e; exact e)
  have hA3 := pre_len h4
  simp only [List.length_cons, List.length_nil] at hA3
  have PQ := Lib.hid (fun W h => passR_yes [q8] (by simp) b s A2 W h (by omega) h4)
  simp only [List.length_singleton] at PQ
  clear h4 HV1
  obtain ⟨i0, hi, hz0, hz1, hz2⟩ := info_parts Tryz.infoAtr
  have hnn : l1 = out.length := by obtain ⟨_, _, e, -⟩ := own_shp hO5; simp only [Value.slice.injEq] at e; exact e.2.1
  subst hnn
  have ER := Lib.hid (show atrX t1 = .error 1 by rw [HA1.out, HV2.out, h5]; simp only [if_pos h6])
  have SKC := Lib.hid (fun W h => skipR_yes [q8] (by simp) (by simp) b s (A2.drop 1) v u W h (by omega) h5)
  obtain ⟨hvl, hul⟩ := toS_len2 h5 (by simp)
  rw [List.length_drop] at hvl hul
  have NXC := Lib.hid (fun W => ltIn_c v (by omega) W)
  obtain ⟨ix, hix⟩ := nx_yes v h6
  rw [hix] at NXC
  clear h5 h6 HV2 HA1 hix
  conv => arg 2; whnf
  go_upto_if 100 with (first | (go_at_call 45; (with_reducible refine TC.out.mono ?_); rintro e w6 ⟨hg6, rfl, hR6⟩; have hs6 := hg6.size; have n1 : b ≠ w6.heap.size := (by omega); have n2 : w.heap.size + 1 ≠ w6.heap.size := (by omega); have n3 : w.heap.size ≠ w6.heap.size := (by omega); have V7 := Vy.new (nm := nm) hC5 hO5 hg6 hR6 hbb hqb hz5; obtain ⟨⟨c0, c2⟩, ⟨m0, m1, m2, m3, g1⟩, ⟨z0, z1, z2, z3, y0, y1, y2, y3⟩, ⟨x1, x2, x4⟩⟩ := V7.cells) | (go_at_call 42; (with_reducible refine (BD.out _ V7.rd).mono ?_); rintro e w8 ⟨rfl, hR8, hg8⟩; have V8 := V7.of_gb hg8 hR8; clear c0 c2 m0 m1 m2 m3 g1 z0 z1 z2 z3 y0 y1 y2 y3 x1 x2 x4; obtain ⟨⟨c0, c2⟩, ⟨m0, m1, m2, m3, g1⟩, ⟨z0, z1, z2, z3, y0, y1, y2, y3⟩, ⟨x1, x2, x4⟩⟩ := V8.cells) | (go_at_call 44; (with_reducible refine (PC.out _ V8.rd).mono ?_); rintro e w9 ⟨rfl, hR9, hg9⟩; have V9 := V8.of_gb hg9 hR9; clear c0 c2 m0 m1 m2 m3 g1 z0 z1 z2 z3 y0 y1 y2 y3 x1 x2 x4; obtain ⟨⟨c0, c2⟩, ⟨m0, m1, m2, m3, g1⟩, ⟨z0, z1, z2, z3, y0, y1, y2, y3⟩, ⟨x1, x2, x4⟩⟩ := V9.cells) | (go_at_call 42; (with_reducible refine (BE.out _ V9.rd).mono ?_); rintro e wa ⟨rfl, hRa, hga⟩; have Va := V9.of_gb hga hRa; clear c0 c2 m0 m1 m2 m3 g1 z0 z1 z2 z3 y0 y1 y2 y3 x1 x2 x4; obtain ⟨⟨c0, c2⟩, ⟨m0, m1, m2, m3, g1⟩, ⟨z0, z1, z2, z3, y0, y1, y2, y3⟩, ⟨x1, x2, x4⟩⟩ := Va.cells; have cK := (hRa.at_ HK.out).2.1) | go_quiet (first | (go_at_call 47; (with_reducible exact quiet_eq (SC.out _)))))
  go_cut [7] from 92 to 150 (fun v wx => v = .string ⟨#[q8]⟩ ∧ Qt wa wx)
  case first =>
    have hq8 := HQ8.out
    clear SC
    cases hp : pre [39] A2 with
    | true =>
      rw [hp] at hq8
      obtain rfl : q8 = 39 := by simpa using hq8
      clear hp hq8 HQ8
      go_wp2
      go_meet
      case rel => exact ⟨rfl, (Qt.refl _).drewN _⟩
    | false =>
      rw [hp] at hq8
      obtain rfl : q8 = 34 := by simpa using hq8
      clear hp hq8 HQ8
      go_wp2
      go_meet
      case rel => exact ⟨rfl, (Qt.refl _).drewN _⟩
  case rest =>
    obtain ⟨rfl, hqb⟩ := hcut
    obtain ⟨wb, hwb⟩ : ∃ wb : World, wb = wc := ⟨_, rfl⟩
    subst hwb
    have Vb := Va.of_bl hqb.bl
    clear c0 c2 m0 m1 m2 m3 g1 z0 z1 z2 z3 y0 y1 y2 y3 x1 x2 x4; obtain ⟨⟨c0, c2⟩, ⟨m0, m1, m2, m3, g1⟩, ⟨z0, z1, z2, z3, y0, y1, y2, y3⟩, ⟨x1, x2, x4⟩⟩ := Vb.cells
    go_wp2_with (first | (go_at_call 44; (with_reducible refine (PQ.out _ Vb.rd).mono ?_); rintro e wp ⟨rfl, hRp, hgp⟩; have Vp := Vb.of_gb hgp hRp; clear c0 c2 m0 m1 m2 m3 g1 z0 z1 z2 z3 y0 y1 y2 y3 x1 x2 x4; obtain ⟨⟨c0, c2⟩, ⟨m0, m1, m2, m3, g1⟩, ⟨z0, z1, z2, z3, y0, y1, y2, y3⟩, ⟨x1, x2, x4⟩⟩ := Vp.cells) | (go_at_call 48; (with_reducible refine (SKC.out _ Vp.rd).mono ?_); rintro e wk ⟨rfl, hRk, hgk⟩; have Vk := Vp.of_gb hgk hRk; clear c0 c2 m0 m1 m2 m3 g1 z0 z1 z2 z3 y0 y1 y2 y3 x1 x2 x4; obtain ⟨⟨c0, c2⟩, ⟨m0, m1, m2, m3, g1⟩, ⟨z0, z1, z2, z3, y0, y1, y2, y3⟩, ⟨x1, x2, x4⟩⟩ := Vk.cells) | (go_at_call 49; (with_reducible refine (NXC.out _).mono ?_); rintro e wn ⟨rfl, rfl⟩) | (go_at_call 23; (with_reducible refine (failR_c 1 (by decide) b s u _ Vk.rd).mono ?_); rintro e wf ⟨rfl, hRf, hgf⟩; have Vf := Vk.of_gb hgf hRf; clear c0 c2 m0 m1 m2 m3 g1 z0 z1 z2 z3 y0 y1 y2 y3 x1 x2 x4; obtain ⟨⟨c0, c2⟩, ⟨m0, m1, m2, m3, g1⟩, ⟨z0, z1, z2, z3, y0, y1, y2, y3⟩, ⟨x1, x2, x4⟩⟩ := Vf.cells) | (at_builtin; refine Hid.out ?_))
    refine Lib.hid ?_
    refine wpList_append_own _ rfl _ _ 22 rfl base 39 i0 (.agg #[.string ⟨#[]⟩, .string ⟨#[]⟩]) 2 32 Tryz.underlying22 hi hz0 hz1 hz2 rfl (by decide) (.slice a1 out.length c1) out.length (atC out) rfl (World.ownsRow.alloc Vf.own _) ⟨wf.heap.size, 0, none⟩ 1 1 [.string ⟨nm.toArray⟩, .string ⟨([] : List UInt8).toArray⟩] rfl rfl (by have h9 := new_cells (wf) #[.string ⟨nm.toArray⟩, .string ⟨([] : List UInt8).toArray⟩] 39; simpa using h9) (by simp [Value.oneCell']) (by unfold maxLen; omega) (by omega) (by have := Vf.size; simp at this ⊢; omega) ?_
    intro v' wz hown' hgrow _
    obtain ⟨a2, l2, c2, rfl, hCz, hC9, hO9, hRz, hR9, hz9⟩ := Vf.app (val := ([] : List UInt8)) hown' hgrow
    clear hown' hgrow
    obtain ⟨m0, m1, m2, m3, g0, g1, g2, g3⟩ := hCz.nb.cells
    have k2 := hRz.rk.cells.2.2.1
    obtain ⟨e0, e1, e2, e3, -⟩ := hC9.nb.cells
    have k9 := hR9.rk.cells.2.2.1
    go_wp2
    exact ay_err hz9 hC9 hR9 (by decide) ER.out
set_option maxRecDepth 100000 in
set_option maxHeartbeats 8000000 in
theorem ay_told (w : World) (b base deep : Nat) (s n t1 : List UInt8) (hs : s.length ≤ 1000000) (hbb : b < base) (hqb : w.heap.size + 2 ≤ base) (a1 : Option Addr) (l1 c1 : Nat) (out : List Atr) (j T : Nat) (tt : List UInt8) (HAS : Hid (atrX t1 = asN j tt out)) (htT : tt.length < T) (_hTj : T ≤ j) (hol : out.length + T ≤ s.length) (_HNL : Hid (∀ a ∈ out, a.1.length ≤ s.length)) (w5 : World) (hz5 : base ≤ w5.heap.size) (hC5 : Cx w b n (.slice a1 l1 c1) (.slice none 0 0) w5) (hO5 : AtO w5 base (.slice a1 l1 c1) out) (hR5 : Yr w5 b s tt 0) (nm t2 : List UInt8) (ht : tiX tt = .ok (nm, t2)) (h3 : pre [61] (wsX t2) = true) (q8 : UInt8) (hq8 : q8 = if pre [39] (wsX ((wsX t2).drop 1)) then 39 else 34) (h4 : pre [q8] (wsX ((wsX t2).drop 1)) = true) (v u : List UInt8) (h5 : toS [q8] ((wsX ((wsX t2).drop 1)).drop 1) = some (v, u)) (h6 : 60 ∉ v) (h7 : (Tk v).2 = false) (u2 u3 u6 u7 u8 u9 u10 u11 u12 u13 u14 u15 u16 u17 u18 u19 u20 u21 u22 u23 u24 u25 u26 u27 u28 u29 u30 u31 u32 u33 u34 u35 u36 u37 u38 u39 u40 u41 u42 u43 u44 u45 u46 u47 u48 u49 u50 u51 u52 u53 u54 u55 u56 u57 u58 u59 u60 u61 u62 u63 u64 u65 u66 u67 u68 u69 u70 u71 u72 u73 u74 u75 u76 u77 u78 u79 u80 u81 u82 u83 u84 u85 u86 u87 u88 u89 u90 u91 u92 u93 u94 u95 u96 u97 u98 u99 u100 u101 u102 u103 u104 u105 u106 u107 u108 u109 u110 u111 u112 u113 u114 u115 u116 u117 u118 u119 u120 u121 u122 u123 u124 u125 u126 u127 u128 u129 u130 u131 u132 u133 u134 u135 u136 u137 u138 u139 u140 u141 u142 u143 u144 u145 u146 u147 u148 u149 u150 u151 u152 u153 u154 u155 u156 u157 u158 u159 u160 u161 u162 u163 u164 u165 u166 u167 u168 u169 u170 u171 u172 u173 u174 u175 u176 u177 u178 u179 u180 u181 u182 u183 u184 u185 u186 u187 u188 u189 u190 u191 u192 u193 u194 u195 u196 u197 u198 u199 u200 u201 u202 u203 u204 u205 u206 u207 u208 u209 u210 u211 u212 u213 u214 u215 u216 u217 u218 u219 u220 u221 u222 u223 u224 u225 u226 u227 u228 u229 u230 u231 u232 u233 u234 u235 u236 u237 u238 u239 u240 u241 u242 u243 u244 u245 u246 u247 u248 u249 u250 u251 u252 u253 u254 u255 u256 u257 u258 u259 u260 u261 u262 u263 u264 u265 u266 u267 u268 u269 u270 u271 u272 u273 u274 u275 u276 u277 u278 u279 u280 u281 u282 u283 u284 u285 u286 u287 u288 u289 u290 u291 u292 u293 u294 u295 u296 u297 u298 u299 u300 u301 u302 u303 u304 u305 u306 u307 u308 u309 u310 u311 u312 u313 : Value) (Q : Exit → Act → World → Prop)
    (hN : ∀ (v6 v7 v8 v77 v78 v79 v80 v81 v82 v83 v84 v85 v86 v87 v88 v89 v90 v91 v92 v93 v94 v95 v96 v97 v98 v99 v100 v101 v102 v103 v104 v105 v106 v107 v108 v109 v110 v111 v112 v113 v114 v115 v116 v117 v118 v119 v120 v121 v122 v123 v124 v125 v126 v127 v128 v129 v130 v131 v132 v133 v134 v135 v136 v137 v138 v139 v140 v141 v142 v143 v144 v145 v146 v147 v148 v149 v150 : Value) (wx : World), AyRound w b base s n t1 T wx → Q .normal ⟨(List.toArray (.pointer (some ⟨b, 0, none⟩) :: .int .i64 (deep : Int) :: u2 :: u3 :: .pointer (some ⟨w.heap.size, 0, none⟩) :: .pointer (some ⟨w.heap.size + 1, 0, none⟩) :: v6 :: v7 :: v8 :: u9 :: u10 :: u11 :: u12 :: u13 :: u14 :: u15 :: u16 :: u17 :: u18 :: u19 :: u20 :: u21 :: u22 :: u23 :: u24 :: u25 :: u26 :: u27 :: u28 :: u29 :: u30 :: u31 :: u32 :: u33 :: u34 :: u35 :: u36 :: u37 :: u38 :: u39 :: u40 :: u41 :: u42 :: u43 :: u44 :: u45 :: u46 :: u47 :: u48 :: u49 :: u50 :: u51 :: u52 :: u53 :: u54 :: u55 :: u56 :: u57 :: u58 :: u59 :: u60 :: u61 :: u62 :: u63 :: u64 :: u65 :: u66 :: u67 :: u68 :: u69 :: u70 :: u71 :: u72 :: u73 :: u74 :: u75 :: u76 :: v77 :: v78 :: v79 :: v80 :: v81 :: v82 :: v83 :: v84 :: v85 :: v86 :: v87 :: v88 :: v89 :: v90 :: v91 :: v92 :: v93 :: v94 :: v95 :: v96 :: v97 :: v98 :: v99 :: v100 :: v101 :: v102 :: v103 :: v104 :: v105 :: v106 :: v107 :: v108 :: v109 :: v110 :: v111 :: v112 :: v113 :: v114 :: v115 :: v116 :: v117 :: v118 :: v119 :: v120 :: v121 :: v122 :: v123 :: v124 :: v125 :: v126 :: v127 :: v128 :: v129 :: v130 :: v131 :: v132 :: v133 :: v134 :: v135 :: v136 :: v137 :: v138 :: v139 :: v140 :: v141 :: v142 :: v143 :: v144 :: v145 :: v146 :: v147 :: v148 :: v149 :: v150 :: u151 :: u152 :: u153 :: u154 :: u155 :: u156 :: u157 :: u158 :: u159 :: u160 :: u161 :: u162 :: u163 :: u164 :: u165 :: u166 :: u167 :: u168 :: u169 :: u170 :: u171 :: u172 :: u173 :: u174 :: u175 :: u176 :: u177 :: u178 :: u179 :: u180 :: u181 :: u182 :: u183 :: u184 :: u185 :: u186 :: u187 :: u188 :: u189 :: u190 :: u191 :: u192 :: u193 :: u194 :: u195 :: u196 :: u197 :: u198 :: u199 :: u200 :: u201 :: u202 :: u203 :: u204 :: u205 :: u206 :: u207 :: u208 :: u209 :: u210 :: u211 :: u212 :: u213 :: u214 :: u215 :: u216 :: u217 :: u218 :: u219 :: u220 :: u221 :: u222 :: u223 :: u224 :: u225 :: u226 :: u227 :: u228 :: u229 :: u230 :: u231 :: u232 :: u233 :: u234 :: u235 :: u236 :: u237 :: u238 :: u239 :: u240 :: u241 :: u242 :: u243 :: u244 :: u245 :: u246 :: u247 :: u248 :: u249 :: u250 :: u251 :: u252 :: u253 :: u254 :: u255 :: u256 :: u257 :: u258 :: u259 :: u260 :: u261 :: u262 :: u263 :: u264 :: u265 :: u266 :: u267 :: u268 :: u269 :: u270 :: u271 :: u272 :: u273 :: u274 :: u275 :: u276 :: u277 :: u278 :: u279 :: u280 :: u281 :: u282 :: u283 :: u284 :: u285 :: u286 :: u287 :: u288 :: u289 :: u290 :: u291 :: u292 :: u293 :: u294 :: u295 :: u296 :: u297 :: u298 :: u299 :: u300 :: u301 :: u302 :: u303 :: u304 :: u305 :: u306 :: u307 :: u308 :: u309 :: u310 :: u311 :: u312 :: u313 :: [])), []⟩ wx) :
    Code.wp Tryz.prog tail10 Q ⟨(List.toArray (.pointer (some ⟨b, 0, none⟩) :: .int .i64 (deep : Int) :: u2 :: u3 :: .pointer (some ⟨w.heap.size, 0, none⟩) :: .pointer (some ⟨w.heap.size + 1, 0, none⟩) :: u6 :: u7 :: u8 :: u9 :: u10 :: u11 :: u12 :: u13 :: u14 :: u15 :: u16 :: u17 :: u18 :: u19 :: u20 :: u21 :: u22 :: u23 :: u24 :: u25 :: u26 :: u27 :: u28 :: u29 :: u30 :: u31 :: u32 :: u33 :: u34 :: u35 :: u36 :: u37 :: u38 :: u39 :: u40 :: u41 :: u42 :: u43 :: u44 :: u45 :: u46 :: u47 :: u48 :: u49 :: u50 :: u51 :: u52 :: u53 :: u54 :: u55 :: u56 :: u57 :: u58 :: u59 :: u60 :: u61 :: u62 :: u63 :: u64 :: u65 :: u66 :: u67 :: u68 :: u69 :: u70 :: u71 :: u72 :: u73 :: u74 :: u75 :: u76 :: u77 :: u78 :: u79 :: u80 :: u81 :: u82 :: u83 :: u84 :: u85 :: u86 :: u87 :: u88 :: u89 :: u90 :: u91 :: u92 :: u93 :: u94 :: u95 :: u96 :: u97 :: u98 :: u99 :: u100 :: u101 :: u102 :: u103 :: u104 :: u105 :: u106 :: u107 :: u108 :: u109 :: u110 :: u111 :: u112 :: u113 :: u114 :: u115 :: u116 :: u117 :: u118 :: u119 :: u120 :: u121 :: u122 :: u123 :: u124 :: u125 :: u126 :: u127 :: u128 :: u129 :: u130 :: u131 :: u132 :: u133 :: u134 :: u135 :: u136 :: u137 :: u138 :: u139 :: u140 :: u141 :: u142 :: u143 :: u144 :: u145 :: u146 :: u147 :: u148 :: u149 :: u150 :: u151 :: u152 :: u153 :: u154 :: u155 :: u156 :: u157 :: u158 :: u159 :: u160 :: u161 :: u162 :: u163 :: u164 :: u165 :: u166 :: u167 :: u168 :: u169 :: u170 :: u171 :: u172 :: u173 :: u174 :: u175 :: u176 :: u177 :: u178 :: u179 :: u180 :: u181 :: u182 :: u183 :: u184 :: u185 :: u186 :: u187 :: u188 :: u189 :: u190 :: u191 :: u192 :: u193 :: u194 :: u195 :: u196 :: u197 :: u198 :: u199 :: u200 :: u201 :: u202 :: u203 :: u204 :: u205 :: u206 :: u207 :: u208 :: u209 :: u210 :: u211 :: u212 :: u213 :: u214 :: u215 :: u216 :: u217 :: u218 :: u219 :: u220 :: u221 :: u222 :: u223 :: u224 :: u225 :: u226 :: u227 :: u228 :: u229 :: u230 :: u231 :: u232 :: u233 :: u234 :: u235 :: u236 :: u237 :: u238 :: u239 :: u240 :: u241 :: u242 :: u243 :: u244 :: u245 :: u246 :: u247 :: u248 :: u249 :: u250 :: u251 :: u252 :: u253 :: u254 :: u255 :: u256 :: u257 :: u258 :: u259 :: u260 :: u261 :: u262 :: u263 :: u264 :: u265 :: u266 :: u267 :: u268 :: u269 :: u270 :: u271 :: u272 :: u273 :: u274 :: u275 :: u276 :: u277 :: u278 :: u279 :: u280 :: u281 :: u282 :: u283 :: u284 :: u285 :: u286 :: u287 :: u288 :: u289 :: u290 :: u291 :: u292 :: u293 :: u294 :: u295 :: u296 :: u297 :: u298 :: u299 :: u300 :: u301 :: u302 :: u303 :: u304 :: u305 :: u306 :: u307 :: u308 :: u309 :: u310 :: u311 :: u312 :: u313 :: [])), []⟩ w5 := by
  obtain ⟨htl2, hti2⟩ := tiX_len ht
  have hnm : nm.length ≤ s.length := by have := hR5.len; omega
  have hsf2 : t2 <:+ s := (tiX_sfx ht).trans hR5.sf
  have TC := Lib.hid (titleR_c b s tt w5 hR5 (by omega))
  rw [ht] at TC
  have HA1 := Lib.hid (HAS.out.trans (asN_ok ht))
  obtain ⟨A, hA⟩ : ∃ A, A = wsX t2 := ⟨_, rfl⟩
  have hsfA : A <:+ s := by rw [hA]; exact (List.dropWhile_suffix blk).trans hsf2
  have hAl : A.length ≤ t2.length := by rw [hA]; exact wsX_len t2
  have BD := Lib.hid (fun W h => blanksR_c b s t2 0 W h (by omega))
  have HV := Lib.hid (vaX_eq t2)
  rw [← hA] at BD HV h3 hq8 h4 h5
  clear hA ht HAS
  have hbn : b < w5.heap.size := by omega
  have hqn : w.heap.size + 1 < w5.heap.size := by omega
  have HV1 := Lib.hid (show vaX t2 = (if pre [q8] (wsX (A.drop 1)) = false then .error 1 else match toS [q8] ((wsX (A.drop 1)).drop 1) with | none => .error 1 | some (v, r) => if 60 ∈ v then .error 1 else if (Tk v).2 then .ok ((Tk v).1, r) else .error 1) by have e := HV.out; rw [if_neg (by simp [h3]), ← hq8] at e; exact e)
  have hA1 := pre_len h3
  simp only [List.length_cons, List.length_nil] at hA1
  have PC := Lib.hid (fun W h => passR_yes [61] (by decide) b s A W h (by omega) h3)
  simp only [List.length_singleton] at PC
  have BE := Lib.hid (fun W h => blanksR_c b s (A.drop 1) 0 W h (by omega))
  obtain ⟨A2, hA2⟩ : ∃ A2, A2 = wsX (A.drop 1) := ⟨_, rfl⟩
  have hsf2 : A2 <:+ s := by rw [hA2]; exact ((List.dropWhile_suffix blk).trans (List.drop_suffix _ _)).trans hsfA
  have hA2l : A2.length ≤ A.length - 1 := by rw [hA2, ← List.length_drop]; exact wsX_len _
  rw [← hA2] at BE HV1 hq8 h4 h5
  obtain ⟨K, hK⟩ : ∃ K, K = s.length - A2.length := ⟨_, rfl⟩
  have hd2 := sfx_drop hsf2
  rw [← hK] at hd2
  have HK := Lib.hid hK
  have SC := Lib.hid (fun W => startsAt_c s [39] K (by omega) (by decide) (by omega) W)
  rw [hd2] at SC
  have HQ8 := Lib.hid hq8
  clear hK hd2 h3 hq8 hA2 HV
  have HV2 := Lib.hid (show vaX t2 = (match toS [q8] (A2.drop 1) with | none => .error 1 | some (v, r) => if 60 ∈ v then .error 1 else if (Tk v).2 then .ok ((Tk v).1, r) else .error 1) from by have e := HV1.out; rw [if_neg (by simp [h4])] at e; exact e)
  have hA3 := pre_len h4
  simp only [List.length_cons, List.length_nil] at hA3
  have PQ := Lib.hid (fun W h => passR_yes [q8] (by simp) b s A2 W h (by omega) h4)
  simp only [List.length_singleton] at PQ
  clear h4 HV1
  obtain ⟨i0, hi, hz0, hz1, hz2⟩ := info_parts Tryz.infoAtr
  have hnn : l1 = out.length := by obtain ⟨_, _, e, -⟩ := own_shp hO5; simp only [Value.slice.injEq] at e; exact e.2.1
  subst hnn
  have ER := Lib.hid (show atrX t1 = .error 1 by rw [HA1.out, HV2.out, h5]; simp only [if_neg h6, h7]; rfl)
  have SKC := Lib.hid (fun W h => skipR_yes [q8] (by simp) (by simp) b s (A2.drop 1) v u W h (by omega) h5)
  obtain ⟨hvl, hul⟩ := toS_len2 h5 (by simp)
  rw [List.length_drop] at hvl hul
  have NXC := Lib.hid (fun W => ltIn_c v (by omega) W)
  rw [nx_no v h6] at NXC
  have TDC := Lib.hid (fun W h => toldR_no v (by omega) b s u W h h7)
  obtain ⟨y, hy⟩ : ∃ y, y = (Tk v).1 := ⟨_, rfl⟩
  rw [← hy] at TDC
  clear h5 h6 h7 HV2 HA1 hy
  conv => arg 2; whnf
  go_upto_if 100 with (first | (go_at_call 45; (with_reducible refine TC.out.mono ?_); rintro e w6 ⟨hg6, rfl, hR6⟩; have hs6 := hg6.size; have n1 : b ≠ w6.heap.size := (by omega); have n2 : w.heap.size + 1 ≠ w6.heap.size := (by omega); have n3 : w.heap.size ≠ w6.heap.size := (by omega); have V7 := Vy.new (nm := nm) hC5 hO5 hg6 hR6 hbb hqb hz5; obtain ⟨⟨c0, c2⟩, ⟨m0, m1, m2, m3, g1⟩, ⟨z0, z1, z2, z3, y0, y1, y2, y3⟩, ⟨x1, x2, x4⟩⟩ := V7.cells) | (go_at_call 42; (with_reducible refine (BD.out _ V7.rd).mono ?_); rintro e w8 ⟨rfl, hR8, hg8⟩; have V8 := V7.of_gb hg8 hR8; clear c0 c2 m0 m1 m2 m3 g1 z0 z1 z2 z3 y0 y1 y2 y3 x1 x2 x4; obtain ⟨⟨c0, c2⟩, ⟨m0, m1, m2, m3, g1⟩, ⟨z0, z1, z2, z3, y0, y1, y2, y3⟩, ⟨x1, x2, x4⟩⟩ := V8.cells) | (go_at_call 44; (with_reducible refine (PC.out _ V8.rd).mono ?_); rintro e w9 ⟨rfl, hR9, hg9⟩; have V9 := V8.of_gb hg9 hR9; clear c0 c2 m0 m1 m2 m3 g1 z0 z1 z2 z3 y0 y1 y2 y3 x1 x2 x4; obtain ⟨⟨c0, c2⟩, ⟨m0, m1, m2, m3, g1⟩, ⟨z0, z1, z2, z3, y0, y1, y2, y3⟩, ⟨x1, x2, x4⟩⟩ := V9.cells) | (go_at_call 42; (with_reducible refine (BE.out _ V9.rd).mono ?_); rintro e wa ⟨rfl, hRa, hga⟩; have Va := V9.of_gb hga hRa; clear c0 c2 m0 m1 m2 m3 g1 z0 z1 z2 z3 y0 y1 y2 y3 x1 x2 x4; obtain ⟨⟨c0, c2⟩, ⟨m0, m1, m2, m3, g1⟩, ⟨z0, z1, z2, z3, y0, y1, y2, y3⟩, ⟨x1, x2, x4⟩⟩ := Va.cells; have cK := (hRa.at_ HK.out).2.1) | go_quiet (first | (go_at_call 47; (with_reducible exact quiet_eq (SC.out _)))))
  go_cut [7] from 92 to 150 (fun v wx => v = .string ⟨#[q8]⟩ ∧ Qt wa wx)
  case first =>
    have hq8 := HQ8.out
    clear SC
    cases hp : pre [39] A2 with
    | true =>
      rw [hp] at hq8
      obtain rfl : q8 = 39 := by simpa using hq8
      clear hp hq8 HQ8
      go_wp2
      go_meet
      case rel => exact ⟨rfl, (Qt.refl _).drewN _⟩
    | false =>
      rw [hp] at hq8
      obtain rfl : q8 = 34 := by simpa using hq8
      clear hp hq8 HQ8
      go_wp2
      go_meet
      case rel => exact ⟨rfl, (Qt.refl _).drewN _⟩
  case rest =>
    obtain ⟨rfl, hqb⟩ := hcut
    obtain ⟨wb, hwb⟩ : ∃ wb : World, wb = wc := ⟨_, rfl⟩
    subst hwb
    have Vb := Va.of_bl hqb.bl
    clear c0 c2 m0 m1 m2 m3 g1 z0 z1 z2 z3 y0 y1 y2 y3 x1 x2 x4; obtain ⟨⟨c0, c2⟩, ⟨m0, m1, m2, m3, g1⟩, ⟨z0, z1, z2, z3, y0, y1, y2, y3⟩, ⟨x1, x2, x4⟩⟩ := Vb.cells
    go_wp2_with (first | (go_at_call 44; (with_reducible refine (PQ.out _ Vb.rd).mono ?_); rintro e wp ⟨rfl, hRp, hgp⟩; have Vp := Vb.of_gb hgp hRp; clear c0 c2 m0 m1 m2 m3 g1 z0 z1 z2 z3 y0 y1 y2 y3 x1 x2 x4; obtain ⟨⟨c0, c2⟩, ⟨m0, m1, m2, m3, g1⟩, ⟨z0, z1, z2, z3, y0, y1, y2, y3⟩, ⟨x1, x2, x4⟩⟩ := Vp.cells) | (go_at_call 48; (with_reducible refine (SKC.out _ Vp.rd).mono ?_); rintro e wk ⟨rfl, hRk, hgk⟩; have Vk := Vp.of_gb hgk hRk; clear c0 c2 m0 m1 m2 m3 g1 z0 z1 z2 z3 y0 y1 y2 y3 x1 x2 x4; obtain ⟨⟨c0, c2⟩, ⟨m0, m1, m2, m3, g1⟩, ⟨z0, z1, z2, z3, y0, y1, y2, y3⟩, ⟨x1, x2, x4⟩⟩ := Vk.cells) | (go_at_call 49; (with_reducible refine (NXC.out _).mono ?_); rintro e wn ⟨rfl, rfl⟩) | (go_at_call 50; (with_reducible refine (TDC.out _ Vk.rd).mono ?_); rintro e wt ⟨rfl, hRt, hgt⟩; have Vt := (Vk.of_gb hgt hRt); have Vs := Vt.setv y; clear c0 c2 m0 m1 m2 m3 g1 z0 z1 z2 z3 y0 y1 y2 y3 x1 x2 x4; obtain ⟨⟨c0, c2⟩, ⟨m0, m1, m2, m3, g1⟩, ⟨z0, z1, z2, z3, y0, y1, y2, y3⟩, ⟨x1, x2, x4⟩⟩ := Vt.cells) | (at_builtin; refine Hid.out ?_))
    refine Lib.hid ?_
    refine wpList_append_own _ rfl _ _ 22 rfl base 39 i0 (.agg #[.string ⟨#[]⟩, .string ⟨#[]⟩]) 2 32 Tryz.underlying22 hi hz0 hz1 hz2 rfl (by decide) (.slice a1 out.length c1) out.length (atC out) rfl (World.ownsRow.alloc Vs.own _) ⟨wt.heap.size, 0, none⟩ 1 1 [.string ⟨nm.toArray⟩, .string ⟨y.toArray⟩] rfl rfl (by have h9 := new_cells (wt.setCell ⟨w6.heap.size, 1, none⟩ (.string ⟨y.toArray⟩)) #[.string ⟨nm.toArray⟩, .string ⟨y.toArray⟩] 39; simpa using h9) (by simp [Value.oneCell']) (by unfold maxLen; omega) (by omega) (by have := Vs.size; simp at this ⊢; omega) ?_
    intro v' wz hown' hgrow _
    obtain ⟨a2, l2, c2, rfl, hCz, hC9, hO9, hRz, hR9, hz9⟩ := Vs.app (val := y) hown' hgrow
    clear hown' hgrow
    obtain ⟨m0, m1, m2, m3, g0, g1, g2, g3⟩ := hCz.nb.cells
    have k2 := hRz.rk.cells.2.2.1
    obtain ⟨e0, e1, e2, e3, -⟩ := hC9.nb.cells
    have k9 := hR9.rk.cells.2.2.1
    go_wp2
    exact ay_err hz9 hC9 hR9 (by decide) ER.out
set_option maxRecDepth 100000 in
set_option maxHeartbeats 8000000 in
theorem ay_yes (w : World) (b base deep : Nat) (s n t1 : List UInt8) (hs : s.length ≤ 1000000) (hbb : b < base) (hqb : w.heap.size + 2 ≤ base) (a1 : Option Addr) (l1 c1 : Nat) (out : List Atr) (j T : Nat) (tt : List UInt8) (HAS : Hid (atrX t1 = asN j tt out)) (htT : tt.length < T) (hTj : T ≤ j) (hol : out.length + T ≤ s.length) (HNL : Hid (∀ a ∈ out, a.1.length ≤ s.length)) (w5 : World) (hz5 : base ≤ w5.heap.size) (hC5 : Cx w b n (.slice a1 l1 c1) (.slice none 0 0) w5) (hO5 : AtO w5 base (.slice a1 l1 c1) out) (hR5 : Yr w5 b s tt 0) (nm t2 : List UInt8) (ht : tiX tt = .ok (nm, t2)) (h3 : pre [61] (wsX t2) = true) (q8 : UInt8) (hq8 : q8 = if pre [39] (wsX ((wsX t2).drop 1)) then 39 else 34) (h4 : pre [q8] (wsX ((wsX t2).drop 1)) = true) (v u : List UInt8) (h5 : toS [q8] ((wsX ((wsX t2).drop 1)).drop 1) = some (v, u)) (h6 : 60 ∉ v) (h7 : (Tk v).2 = true) (h8 : atX (out ++ [(nm, (Tk v).1)]) = 0) (u2 u3 u6 u7 u8 u9 u10 u11 u12 u13 u14 u15 u16 u17 u18 u19 u20 u21 u22 u23 u24 u25 u26 u27 u28 u29 u30 u31 u32 u33 u34 u35 u36 u37 u38 u39 u40 u41 u42 u43 u44 u45 u46 u47 u48 u49 u50 u51 u52 u53 u54 u55 u56 u57 u58 u59 u60 u61 u62 u63 u64 u65 u66 u67 u68 u69 u70 u71 u72 u73 u74 u75 u76 u77 u78 u79 u80 u81 u82 u83 u84 u85 u86 u87 u88 u89 u90 u91 u92 u93 u94 u95 u96 u97 u98 u99 u100 u101 u102 u103 u104 u105 u106 u107 u108 u109 u110 u111 u112 u113 u114 u115 u116 u117 u118 u119 u120 u121 u122 u123 u124 u125 u126 u127 u128 u129 u130 u131 u132 u133 u134 u135 u136 u137 u138 u139 u140 u141 u142 u143 u144 u145 u146 u147 u148 u149 u150 u151 u152 u153 u154 u155 u156 u157 u158 u159 u160 u161 u162 u163 u164 u165 u166 u167 u168 u169 u170 u171 u172 u173 u174 u175 u176 u177 u178 u179 u180 u181 u182 u183 u184 u185 u186 u187 u188 u189 u190 u191 u192 u193 u194 u195 u196 u197 u198 u199 u200 u201 u202 u203 u204 u205 u206 u207 u208 u209 u210 u211 u212 u213 u214 u215 u216 u217 u218 u219 u220 u221 u222 u223 u224 u225 u226 u227 u228 u229 u230 u231 u232 u233 u234 u235 u236 u237 u238 u239 u240 u241 u242 u243 u244 u245 u246 u247 u248 u249 u250 u251 u252 u253 u254 u255 u256 u257 u258 u259 u260 u261 u262 u263 u264 u265 u266 u267 u268 u269 u270 u271 u272 u273 u274 u275 u276 u277 u278 u279 u280 u281 u282 u283 u284 u285 u286 u287 u288 u289 u290 u291 u292 u293 u294 u295 u296 u297 u298 u299 u300 u301 u302 u303 u304 u305 u306 u307 u308 u309 u310 u311 u312 u313 : Value) (Q : Exit → Act → World → Prop)
    (hN : ∀ (v6 v7 v8 v77 v78 v79 v80 v81 v82 v83 v84 v85 v86 v87 v88 v89 v90 v91 v92 v93 v94 v95 v96 v97 v98 v99 v100 v101 v102 v103 v104 v105 v106 v107 v108 v109 v110 v111 v112 v113 v114 v115 v116 v117 v118 v119 v120 v121 v122 v123 v124 v125 v126 v127 v128 v129 v130 v131 v132 v133 v134 v135 v136 v137 v138 v139 v140 v141 v142 v143 v144 v145 v146 v147 v148 v149 v150 : Value) (wx : World), AyRound w b base s n t1 T wx → Q .normal ⟨(List.toArray (.pointer (some ⟨b, 0, none⟩) :: .int .i64 (deep : Int) :: u2 :: u3 :: .pointer (some ⟨w.heap.size, 0, none⟩) :: .pointer (some ⟨w.heap.size + 1, 0, none⟩) :: v6 :: v7 :: v8 :: u9 :: u10 :: u11 :: u12 :: u13 :: u14 :: u15 :: u16 :: u17 :: u18 :: u19 :: u20 :: u21 :: u22 :: u23 :: u24 :: u25 :: u26 :: u27 :: u28 :: u29 :: u30 :: u31 :: u32 :: u33 :: u34 :: u35 :: u36 :: u37 :: u38 :: u39 :: u40 :: u41 :: u42 :: u43 :: u44 :: u45 :: u46 :: u47 :: u48 :: u49 :: u50 :: u51 :: u52 :: u53 :: u54 :: u55 :: u56 :: u57 :: u58 :: u59 :: u60 :: u61 :: u62 :: u63 :: u64 :: u65 :: u66 :: u67 :: u68 :: u69 :: u70 :: u71 :: u72 :: u73 :: u74 :: u75 :: u76 :: v77 :: v78 :: v79 :: v80 :: v81 :: v82 :: v83 :: v84 :: v85 :: v86 :: v87 :: v88 :: v89 :: v90 :: v91 :: v92 :: v93 :: v94 :: v95 :: v96 :: v97 :: v98 :: v99 :: v100 :: v101 :: v102 :: v103 :: v104 :: v105 :: v106 :: v107 :: v108 :: v109 :: v110 :: v111 :: v112 :: v113 :: v114 :: v115 :: v116 :: v117 :: v118 :: v119 :: v120 :: v121 :: v122 :: v123 :: v124 :: v125 :: v126 :: v127 :: v128 :: v129 :: v130 :: v131 :: v132 :: v133 :: v134 :: v135 :: v136 :: v137 :: v138 :: v139 :: v140 :: v141 :: v142 :: v143 :: v144 :: v145 :: v146 :: v147 :: v148 :: v149 :: v150 :: u151 :: u152 :: u153 :: u154 :: u155 :: u156 :: u157 :: u158 :: u159 :: u160 :: u161 :: u162 :: u163 :: u164 :: u165 :: u166 :: u167 :: u168 :: u169 :: u170 :: u171 :: u172 :: u173 :: u174 :: u175 :: u176 :: u177 :: u178 :: u179 :: u180 :: u181 :: u182 :: u183 :: u184 :: u185 :: u186 :: u187 :: u188 :: u189 :: u190 :: u191 :: u192 :: u193 :: u194 :: u195 :: u196 :: u197 :: u198 :: u199 :: u200 :: u201 :: u202 :: u203 :: u204 :: u205 :: u206 :: u207 :: u208 :: u209 :: u210 :: u211 :: u212 :: u213 :: u214 :: u215 :: u216 :: u217 :: u218 :: u219 :: u220 :: u221 :: u222 :: u223 :: u224 :: u225 :: u226 :: u227 :: u228 :: u229 :: u230 :: u231 :: u232 :: u233 :: u234 :: u235 :: u236 :: u237 :: u238 :: u239 :: u240 :: u241 :: u242 :: u243 :: u244 :: u245 :: u246 :: u247 :: u248 :: u249 :: u250 :: u251 :: u252 :: u253 :: u254 :: u255 :: u256 :: u257 :: u258 :: u259 :: u260 :: u261 :: u262 :: u263 :: u264 :: u265 :: u266 :: u267 :: u268 :: u269 :: u270 :: u271 :: u272 :: u273 :: u274 :: u275 :: u276 :: u277 :: u278 :: u279 :: u280 :: u281 :: u282 :: u283 :: u284 :: u285 :: u286 :: u287 :: u288 :: u289 :: u290 :: u291 :: u292 :: u293 :: u294 :: u295 :: u296 :: u297 :: u298 :: u299 :: u300 :: u301 :: u302 :: u303 :: u304 :: u305 :: u306 :: u307 :: u308 :: u309 :: u310 :: u311 :: u312 :: u313 :: [])), []⟩ wx) :
    Code.wp Tryz.prog tail10 Q ⟨(List.toArray (.pointer (some ⟨b, 0, none⟩) :: .int .i64 (deep : Int) :: u2 :: u3 :: .pointer (some ⟨w.heap.size, 0, none⟩) :: .pointer (some ⟨w.heap.size + 1, 0, none⟩) :: u6 :: u7 :: u8 :: u9 :: u10 :: u11 :: u12 :: u13 :: u14 :: u15 :: u16 :: u17 :: u18 :: u19 :: u20 :: u21 :: u22 :: u23 :: u24 :: u25 :: u26 :: u27 :: u28 :: u29 :: u30 :: u31 :: u32 :: u33 :: u34 :: u35 :: u36 :: u37 :: u38 :: u39 :: u40 :: u41 :: u42 :: u43 :: u44 :: u45 :: u46 :: u47 :: u48 :: u49 :: u50 :: u51 :: u52 :: u53 :: u54 :: u55 :: u56 :: u57 :: u58 :: u59 :: u60 :: u61 :: u62 :: u63 :: u64 :: u65 :: u66 :: u67 :: u68 :: u69 :: u70 :: u71 :: u72 :: u73 :: u74 :: u75 :: u76 :: u77 :: u78 :: u79 :: u80 :: u81 :: u82 :: u83 :: u84 :: u85 :: u86 :: u87 :: u88 :: u89 :: u90 :: u91 :: u92 :: u93 :: u94 :: u95 :: u96 :: u97 :: u98 :: u99 :: u100 :: u101 :: u102 :: u103 :: u104 :: u105 :: u106 :: u107 :: u108 :: u109 :: u110 :: u111 :: u112 :: u113 :: u114 :: u115 :: u116 :: u117 :: u118 :: u119 :: u120 :: u121 :: u122 :: u123 :: u124 :: u125 :: u126 :: u127 :: u128 :: u129 :: u130 :: u131 :: u132 :: u133 :: u134 :: u135 :: u136 :: u137 :: u138 :: u139 :: u140 :: u141 :: u142 :: u143 :: u144 :: u145 :: u146 :: u147 :: u148 :: u149 :: u150 :: u151 :: u152 :: u153 :: u154 :: u155 :: u156 :: u157 :: u158 :: u159 :: u160 :: u161 :: u162 :: u163 :: u164 :: u165 :: u166 :: u167 :: u168 :: u169 :: u170 :: u171 :: u172 :: u173 :: u174 :: u175 :: u176 :: u177 :: u178 :: u179 :: u180 :: u181 :: u182 :: u183 :: u184 :: u185 :: u186 :: u187 :: u188 :: u189 :: u190 :: u191 :: u192 :: u193 :: u194 :: u195 :: u196 :: u197 :: u198 :: u199 :: u200 :: u201 :: u202 :: u203 :: u204 :: u205 :: u206 :: u207 :: u208 :: u209 :: u210 :: u211 :: u212 :: u213 :: u214 :: u215 :: u216 :: u217 :: u218 :: u219 :: u220 :: u221 :: u222 :: u223 :: u224 :: u225 :: u226 :: u227 :: u228 :: u229 :: u230 :: u231 :: u232 :: u233 :: u234 :: u235 :: u236 :: u237 :: u238 :: u239 :: u240 :: u241 :: u242 :: u243 :: u244 :: u245 :: u246 :: u247 :: u248 :: u249 :: u250 :: u251 :: u252 :: u253 :: u254 :: u255 :: u256 :: u257 :: u258 :: u259 :: u260 :: u261 :: u262 :: u263 :: u264 :: u265 :: u266 :: u267 :: u268 :: u269 :: u270 :: u271 :: u272 :: u273 :: u274 :: u275 :: u276 :: u277 :: u278 :: u279 :: u280 :: u281 :: u282 :: u283 :: u284 :: u285 :: u286 :: u287 :: u288 :: u289 :: u290 :: u291 :: u292 :: u293 :: u294 :: u295 :: u296 :: u297 :: u298 :: u299 :: u300 :: u301 :: u302 :: u303 :: u304 :: u305 :: u306 :: u307 :: u308 :: u309 :: u310 :: u311 :: u312 :: u313 :: [])), []⟩ w5 := by
  obtain ⟨htl2, hti2⟩ := tiX_len ht
  have hnm : nm.length ≤ s.length := by have := hR5.len; omega
  have hsf2 : t2 <:+ s := (tiX_sfx ht).trans hR5.sf
  have TC := Lib.hid (titleR_c b s tt w5 hR5 (by omega))
  rw [ht] at TC
  have HA1 := Lib.hid (HAS.out.trans (asN_ok ht))
  obtain ⟨A, hA⟩ : ∃ A, A = wsX t2 := ⟨_, rfl⟩
  have hsfA : A <:+ s := by rw [hA]; exact (List.dropWhile_suffix blk).trans hsf2
  have hAl : A.length ≤ t2.length := by rw [hA]; exact wsX_len t2
  have BD := Lib.hid (fun W h => blanksR_c b s t2 0 W h (by omega))
  have HV := Lib.hid (vaX_eq t2)
  rw [← hA] at BD HV h3 hq8 h4 h5
  clear hA ht HAS
  have hbn : b < w5.heap.size := by omega
  have hqn : w.heap.size + 1 < w5.heap.size := by omega
  have HV1 := Lib.hid (show vaX t2 = (if pre [q8] (wsX (A.drop 1)) = false then .error 1 else match toS [q8] ((wsX (A.drop 1)).drop 1) with | none => .error 1 | some (v, r) => if 60 ∈ v then .error 1 else if (Tk v).2 then .ok ((Tk v).1, r) else .error 1) by have e := HV.out; rw [if_neg (by simp [h3]), ← hq8] at e; exact e)
  have hA1 := pre_len h3
  simp only [List.length_cons, List.length_nil] at hA1
  have PC := Lib.hid (fun W h => passR_yes [61] (by decide) b s A W h (by omega) h3)
  simp only [List.length_singleton] at PC
  have BE := Lib.hid (fun W h => blanksR_c b s (A.drop 1) 0 W h (by omega))
  obtain ⟨A2, hA2⟩ : ∃ A2, A2 = wsX (A.drop 1) := ⟨_, rfl⟩
  have hsf2 : A2 <:+ s := by rw [hA2]; exact ((List.dropWhile_suffix blk).trans (List.drop_suffix _ _)).trans hsfA
  have hA2l : A2.length ≤ A.length - 1 := by rw [hA2, ← List.length_drop]; exact wsX_len _
  rw [← hA2] at BE HV1 hq8 h4 h5
  obtain ⟨K, hK⟩ : ∃ K, K = s.length - A2.length := ⟨_, rfl⟩
  have hd2 := sfx_drop hsf2
  rw [← hK] at hd2
  have HK := Lib.hid hK
  have SC := Lib.hid (fun W => startsAt_c s [39] K (by omega) (by decide) (by omega) W)
  rw [hd2] at SC
  have HQ8 := Lib.hid hq8
  clear hK hd2 h3 hq8 hA2 HV
  have HV2 := Lib.hid (show vaX t2 = (match toS [q8] (A2.drop 1) with | none => .error 1 | some (v, r) => if 60 ∈ v then .error 1 else if (Tk v).2 then .ok ((Tk v).1, r) else .error 1) from by have e := HV1.out; rw [if_neg (by simp [h4])] at e; exact e)
  have hA3 := pre_len h4
  simp only [List.length_cons, List.length_nil] at hA3
  have PQ := Lib.hid (fun W h => passR_yes [q8] (by simp) b s A2 W h (by omega) h4)
  simp only [List.length_singleton] at PQ
  clear h4 HV1
  obtain ⟨i0, hi, hz0, hz1, hz2⟩ := info_parts Tryz.infoAtr
  have hnn : l1 = out.length := by obtain ⟨_, _, e, -⟩ := own_shp hO5; simp only [Value.slice.injEq] at e; exact e.2.1
  subst hnn
  have SKC := Lib.hid (fun W h => skipR_yes [q8] (by simp) (by simp) b s (A2.drop 1) v u W h (by omega) h5)
  obtain ⟨hvl, hul⟩ := toS_len2 h5 (by simp)
  rw [List.length_drop] at hvl hul
  have NXC := Lib.hid (fun W => ltIn_c v (by omega) W)
  rw [nx_no v h6] at NXC
  have TDC := Lib.hid (fun W => toldR_yes v (by omega) b W h7)
  have HA2 := Lib.hid (show atrX t1 = (if atX (out ++ [(nm, (Tk v).1)]) ≠ 0 then .error 6 else asF (j - 1) u (out ++ [(nm, (Tk v).1)])) by have e := HA1.out; rw [HV2.out, h5] at e; simp only [if_neg h6, h7, if_true] at e; exact e)
  obtain ⟨y, hy⟩ : ∃ y, y = (Tk v).1 := ⟨_, rfl⟩
  rw [← hy] at TDC HA2 h8
  have HNL2 := Lib.hid (show ∀ a ∈ out ++ [(nm, y)], a.1.length ≤ s.length from fun a ha => by
    rcases List.mem_append.1 ha with h | h
    · exact HNL.out a h
    · rw [List.mem_singleton] at h; subst h; exact hnm)
  have hul2 : u.length < T := by omega
  clear h5 h6 h7 HV2 HA1 hy
  have ER := Lib.hid (show atrX t1 = asF (j - 1) u (out ++ [(nm, y)]) by rw [HA2.out, if_neg (fun h => h h8)])
  conv => arg 2; whnf
  go_upto_if 100 with (first | (go_at_call 45; (with_reducible refine TC.out.mono ?_); rintro e w6 ⟨hg6, rfl, hR6⟩; have hs6 := hg6.size; have n1 : b ≠ w6.heap.size := (by omega); have n2 : w.heap.size + 1 ≠ w6.heap.size := (by omega); have n3 : w.heap.size ≠ w6.heap.size := (by omega); have V7 := Vy.new (nm := nm) hC5 hO5 hg6 hR6 hbb hqb hz5; obtain ⟨⟨c0, c2⟩, ⟨m0, m1, m2, m3, g1⟩, ⟨z0, z1, z2, z3, y0, y1, y2, y3⟩, ⟨x1, x2, x4⟩⟩ := V7.cells) | (go_at_call 42; (with_reducible refine (BD.out _ V7.rd).mono ?_); rintro e w8 ⟨rfl, hR8, hg8⟩; have V8 := V7.of_gb hg8 hR8; clear c0 c2 m0 m1 m2 m3 g1 z0 z1 z2 z3 y0 y1 y2 y3 x1 x2 x4; obtain ⟨⟨c0, c2⟩, ⟨m0, m1, m2, m3, g1⟩, ⟨z0, z1, z2, z3, y0, y1, y2, y3⟩, ⟨x1, x2, x4⟩⟩ := V8.cells) | (go_at_call 44; (with_reducible refine (PC.out _ V8.rd).mono ?_); rintro e w9 ⟨rfl, hR9, hg9⟩; have V9 := V8.of_gb hg9 hR9; clear c0 c2 m0 m1 m2 m3 g1 z0 z1 z2 z3 y0 y1 y2 y3 x1 x2 x4; obtain ⟨⟨c0, c2⟩, ⟨m0, m1, m2, m3, g1⟩, ⟨z0, z1, z2, z3, y0, y1, y2, y3⟩, ⟨x1, x2, x4⟩⟩ := V9.cells) | (go_at_call 42; (with_reducible refine (BE.out _ V9.rd).mono ?_); rintro e wa ⟨rfl, hRa, hga⟩; have Va := V9.of_gb hga hRa; clear c0 c2 m0 m1 m2 m3 g1 z0 z1 z2 z3 y0 y1 y2 y3 x1 x2 x4; obtain ⟨⟨c0, c2⟩, ⟨m0, m1, m2, m3, g1⟩, ⟨z0, z1, z2, z3, y0, y1, y2, y3⟩, ⟨x1, x2, x4⟩⟩ := Va.cells; have cK := (hRa.at_ HK.out).2.1) | go_quiet (first | (go_at_call 47; (with_reducible exact quiet_eq (SC.out _)))))
  go_cut [7] from 92 to 150 (fun v wx => v = .string ⟨#[q8]⟩ ∧ Qt wa wx)
  case first =>
    have hq8 := HQ8.out
    clear SC
    cases hp : pre [39] A2 with
    | true =>
      rw [hp] at hq8
      obtain rfl : q8 = 39 := by simpa using hq8
      clear hp hq8 HQ8
      go_wp2
      go_meet
      case rel => exact ⟨rfl, (Qt.refl _).drewN _⟩
    | false =>
      rw [hp] at hq8
      obtain rfl : q8 = 34 := by simpa using hq8
      clear hp hq8 HQ8
      go_wp2
      go_meet
      case rel => exact ⟨rfl, (Qt.refl _).drewN _⟩
  case rest =>
    obtain ⟨rfl, hqb⟩ := hcut
    obtain ⟨wb, hwb⟩ : ∃ wb : World, wb = wc := ⟨_, rfl⟩
    subst hwb
    have Vb := Va.of_bl hqb.bl
    clear c0 c2 m0 m1 m2 m3 g1 z0 z1 z2 z3 y0 y1 y2 y3 x1 x2 x4; obtain ⟨⟨c0, c2⟩, ⟨m0, m1, m2, m3, g1⟩, ⟨z0, z1, z2, z3, y0, y1, y2, y3⟩, ⟨x1, x2, x4⟩⟩ := Vb.cells
    go_wp2_with (first | (go_at_call 44; (with_reducible refine (PQ.out _ Vb.rd).mono ?_); rintro e wp ⟨rfl, hRp, hgp⟩; have Vp := Vb.of_gb hgp hRp; clear c0 c2 m0 m1 m2 m3 g1 z0 z1 z2 z3 y0 y1 y2 y3 x1 x2 x4; obtain ⟨⟨c0, c2⟩, ⟨m0, m1, m2, m3, g1⟩, ⟨z0, z1, z2, z3, y0, y1, y2, y3⟩, ⟨x1, x2, x4⟩⟩ := Vp.cells) | (go_at_call 48; (with_reducible refine (SKC.out _ Vp.rd).mono ?_); rintro e wk ⟨rfl, hRk, hgk⟩; have Vk := Vp.of_gb hgk hRk; clear c0 c2 m0 m1 m2 m3 g1 z0 z1 z2 z3 y0 y1 y2 y3 x1 x2 x4; obtain ⟨⟨c0, c2⟩, ⟨m0, m1, m2, m3, g1⟩, ⟨z0, z1, z2, z3, y0, y1, y2, y3⟩, ⟨x1, x2, x4⟩⟩ := Vk.cells) | (go_at_call 49; (with_reducible refine (NXC.out _).mono ?_); rintro e wn ⟨rfl, rfl⟩) | (go_at_call 50; (with_reducible refine (TDC.out _).mono ?_); rintro e wt ⟨rfl, hbt⟩; have Vt := Vk.of_bl hbt; have Vs := Vt.setv y; clear c0 c2 m0 m1 m2 m3 g1 z0 z1 z2 z3 y0 y1 y2 y3 x1 x2 x4; obtain ⟨⟨c0, c2⟩, ⟨m0, m1, m2, m3, g1⟩, ⟨z0, z1, z2, z3, y0, y1, y2, y3⟩, ⟨x1, x2, x4⟩⟩ := Vt.cells) | (at_builtin; refine Hid.out ?_))
    refine Lib.hid ?_
    refine wpList_append_own _ rfl _ _ 22 rfl base 39 i0 (.agg #[.string ⟨#[]⟩, .string ⟨#[]⟩]) 2 32 Tryz.underlying22 hi hz0 hz1 hz2 rfl (by decide) (.slice a1 out.length c1) out.length (atC out) rfl (World.ownsRow.alloc Vs.own _) ⟨wt.heap.size, 0, none⟩ 1 1 [.string ⟨nm.toArray⟩, .string ⟨y.toArray⟩] rfl rfl (by have h9 := new_cells (wt.setCell ⟨w6.heap.size, 1, none⟩ (.string ⟨y.toArray⟩)) #[.string ⟨nm.toArray⟩, .string ⟨y.toArray⟩] 39; simpa using h9) (by simp [Value.oneCell']) (by unfold maxLen; omega) (by omega) (by have := Vs.size; simp at this ⊢; omega) ?_
    intro v' wz hown' hgrow _
    obtain ⟨a2, l2, c2, rfl, hCz, hC9, hO9, hRz, hR9, hz9⟩ := Vs.app (val := y) hown' hgrow
    clear hown' hgrow
    obtain ⟨m0, m1, m2, m3, g0, g1, g2, g3⟩ := hCz.nb.cells
    have k2 := hRz.rk.cells.2.2.1
    obtain ⟨e0, e1, e2, e3, -⟩ := hC9.nb.cells
    have k9 := hR9.rk.cells.2.2.1
    have ACC := Lib.hid (checkAttrsT_c (out ++ [(nm, y)]) (.slice a2 l2 c2) (by simp; omega) (fun a ha => by have := HNL2.out a ha; omega) _ hO9.ats)
    rw [h8] at ACC
    go_wp2_with (first | (go_at_call 41; (with_reducible refine ACC.out.mono ?_); rintro e wy ⟨rfl, hby⟩; have hC10 := hC9.of_bl hby; have hR10 := hR9.of_bl hby; have hO10 := hO9.of_bl hby; have hz10 := Nat.le_trans hz9 (Below.size hby); have k10 := hR10.rk.cells.2.2.1))
    exact ay_next hz10 hC10 hR10 hO10 ER.out (by omega) (by simp; omega) HNL2.out hul2
set_option maxRecDepth 100000 in
set_option maxHeartbeats 8000000 in
theorem ay_twice (w : World) (b base deep : Nat) (s n t1 : List UInt8) (hs : s.length ≤ 1000000) (hbb : b < base) (hqb : w.heap.size + 2 ≤ base) (a1 : Option Addr) (l1 c1 : Nat) (out : List Atr) (j T : Nat) (tt : List UInt8) (HAS : Hid (atrX t1 = asN j tt out)) (htT : tt.length < T) (_hTj : T ≤ j) (hol : out.length + T ≤ s.length) (HNL : Hid (∀ a ∈ out, a.1.length ≤ s.length)) (w5 : World) (hz5 : base ≤ w5.heap.size) (hC5 : Cx w b n (.slice a1 l1 c1) (.slice none 0 0) w5) (hO5 : AtO w5 base (.slice a1 l1 c1) out) (hR5 : Yr w5 b s tt 0) (nm t2 : List UInt8) (ht : tiX tt = .ok (nm, t2)) (h3 : pre [61] (wsX t2) = true) (q8 : UInt8) (hq8 : q8 = if pre [39] (wsX ((wsX t2).drop 1)) then 39 else 34) (h4 : pre [q8] (wsX ((wsX t2).drop 1)) = true) (v u : List UInt8) (h5 : toS [q8] ((wsX ((wsX t2).drop 1)).drop 1) = some (v, u)) (h6 : 60 ∉ v) (h7 : (Tk v).2 = true) (h8 : atX (out ++ [(nm, (Tk v).1)]) ≠ 0) (u2 u3 u6 u7 u8 u9 u10 u11 u12 u13 u14 u15 u16 u17 u18 u19 u20 u21 u22 u23 u24 u25 u26 u27 u28 u29 u30 u31 u32 u33 u34 u35 u36 u37 u38 u39 u40 u41 u42 u43 u44 u45 u46 u47 u48 u49 u50 u51 u52 u53 u54 u55 u56 u57 u58 u59 u60 u61 u62 u63 u64 u65 u66 u67 u68 u69 u70 u71 u72 u73 u74 u75 u76 u77 u78 u79 u80 u81 u82 u83 u84 u85 u86 u87 u88 u89 u90 u91 u92 u93 u94 u95 u96 u97 u98 u99 u100 u101 u102 u103 u104 u105 u106 u107 u108 u109 u110 u111 u112 u113 u114 u115 u116 u117 u118 u119 u120 u121 u122 u123 u124 u125 u126 u127 u128 u129 u130 u131 u132 u133 u134 u135 u136 u137 u138 u139 u140 u141 u142 u143 u144 u145 u146 u147 u148 u149 u150 u151 u152 u153 u154 u155 u156 u157 u158 u159 u160 u161 u162 u163 u164 u165 u166 u167 u168 u169 u170 u171 u172 u173 u174 u175 u176 u177 u178 u179 u180 u181 u182 u183 u184 u185 u186 u187 u188 u189 u190 u191 u192 u193 u194 u195 u196 u197 u198 u199 u200 u201 u202 u203 u204 u205 u206 u207 u208 u209 u210 u211 u212 u213 u214 u215 u216 u217 u218 u219 u220 u221 u222 u223 u224 u225 u226 u227 u228 u229 u230 u231 u232 u233 u234 u235 u236 u237 u238 u239 u240 u241 u242 u243 u244 u245 u246 u247 u248 u249 u250 u251 u252 u253 u254 u255 u256 u257 u258 u259 u260 u261 u262 u263 u264 u265 u266 u267 u268 u269 u270 u271 u272 u273 u274 u275 u276 u277 u278 u279 u280 u281 u282 u283 u284 u285 u286 u287 u288 u289 u290 u291 u292 u293 u294 u295 u296 u297 u298 u299 u300 u301 u302 u303 u304 u305 u306 u307 u308 u309 u310 u311 u312 u313 : Value) (Q : Exit → Act → World → Prop)
    (hN : ∀ (v6 v7 v8 v77 v78 v79 v80 v81 v82 v83 v84 v85 v86 v87 v88 v89 v90 v91 v92 v93 v94 v95 v96 v97 v98 v99 v100 v101 v102 v103 v104 v105 v106 v107 v108 v109 v110 v111 v112 v113 v114 v115 v116 v117 v118 v119 v120 v121 v122 v123 v124 v125 v126 v127 v128 v129 v130 v131 v132 v133 v134 v135 v136 v137 v138 v139 v140 v141 v142 v143 v144 v145 v146 v147 v148 v149 v150 : Value) (wx : World), AyRound w b base s n t1 T wx → Q .normal ⟨(List.toArray (.pointer (some ⟨b, 0, none⟩) :: .int .i64 (deep : Int) :: u2 :: u3 :: .pointer (some ⟨w.heap.size, 0, none⟩) :: .pointer (some ⟨w.heap.size + 1, 0, none⟩) :: v6 :: v7 :: v8 :: u9 :: u10 :: u11 :: u12 :: u13 :: u14 :: u15 :: u16 :: u17 :: u18 :: u19 :: u20 :: u21 :: u22 :: u23 :: u24 :: u25 :: u26 :: u27 :: u28 :: u29 :: u30 :: u31 :: u32 :: u33 :: u34 :: u35 :: u36 :: u37 :: u38 :: u39 :: u40 :: u41 :: u42 :: u43 :: u44 :: u45 :: u46 :: u47 :: u48 :: u49 :: u50 :: u51 :: u52 :: u53 :: u54 :: u55 :: u56 :: u57 :: u58 :: u59 :: u60 :: u61 :: u62 :: u63 :: u64 :: u65 :: u66 :: u67 :: u68 :: u69 :: u70 :: u71 :: u72 :: u73 :: u74 :: u75 :: u76 :: v77 :: v78 :: v79 :: v80 :: v81 :: v82 :: v83 :: v84 :: v85 :: v86 :: v87 :: v88 :: v89 :: v90 :: v91 :: v92 :: v93 :: v94 :: v95 :: v96 :: v97 :: v98 :: v99 :: v100 :: v101 :: v102 :: v103 :: v104 :: v105 :: v106 :: v107 :: v108 :: v109 :: v110 :: v111 :: v112 :: v113 :: v114 :: v115 :: v116 :: v117 :: v118 :: v119 :: v120 :: v121 :: v122 :: v123 :: v124 :: v125 :: v126 :: v127 :: v128 :: v129 :: v130 :: v131 :: v132 :: v133 :: v134 :: v135 :: v136 :: v137 :: v138 :: v139 :: v140 :: v141 :: v142 :: v143 :: v144 :: v145 :: v146 :: v147 :: v148 :: v149 :: v150 :: u151 :: u152 :: u153 :: u154 :: u155 :: u156 :: u157 :: u158 :: u159 :: u160 :: u161 :: u162 :: u163 :: u164 :: u165 :: u166 :: u167 :: u168 :: u169 :: u170 :: u171 :: u172 :: u173 :: u174 :: u175 :: u176 :: u177 :: u178 :: u179 :: u180 :: u181 :: u182 :: u183 :: u184 :: u185 :: u186 :: u187 :: u188 :: u189 :: u190 :: u191 :: u192 :: u193 :: u194 :: u195 :: u196 :: u197 :: u198 :: u199 :: u200 :: u201 :: u202 :: u203 :: u204 :: u205 :: u206 :: u207 :: u208 :: u209 :: u210 :: u211 :: u212 :: u213 :: u214 :: u215 :: u216 :: u217 :: u218 :: u219 :: u220 :: u221 :: u222 :: u223 :: u224 :: u225 :: u226 :: u227 :: u228 :: u229 :: u230 :: u231 :: u232 :: u233 :: u234 :: u235 :: u236 :: u237 :: u238 :: u239 :: u240 :: u241 :: u242 :: u243 :: u244 :: u245 :: u246 :: u247 :: u248 :: u249 :: u250 :: u251 :: u252 :: u253 :: u254 :: u255 :: u256 :: u257 :: u258 :: u259 :: u260 :: u261 :: u262 :: u263 :: u264 :: u265 :: u266 :: u267 :: u268 :: u269 :: u270 :: u271 :: u272 :: u273 :: u274 :: u275 :: u276 :: u277 :: u278 :: u279 :: u280 :: u281 :: u282 :: u283 :: u284 :: u285 :: u286 :: u287 :: u288 :: u289 :: u290 :: u291 :: u292 :: u293 :: u294 :: u295 :: u296 :: u297 :: u298 :: u299 :: u300 :: u301 :: u302 :: u303 :: u304 :: u305 :: u306 :: u307 :: u308 :: u309 :: u310 :: u311 :: u312 :: u313 :: [])), []⟩ wx) :
    Code.wp Tryz.prog tail10 Q ⟨(List.toArray (.pointer (some ⟨b, 0, none⟩) :: .int .i64 (deep : Int) :: u2 :: u3 :: .pointer (some ⟨w.heap.size, 0, none⟩) :: .pointer (some ⟨w.heap.size + 1, 0, none⟩) :: u6 :: u7 :: u8 :: u9 :: u10 :: u11 :: u12 :: u13 :: u14 :: u15 :: u16 :: u17 :: u18 :: u19 :: u20 :: u21 :: u22 :: u23 :: u24 :: u25 :: u26 :: u27 :: u28 :: u29 :: u30 :: u31 :: u32 :: u33 :: u34 :: u35 :: u36 :: u37 :: u38 :: u39 :: u40 :: u41 :: u42 :: u43 :: u44 :: u45 :: u46 :: u47 :: u48 :: u49 :: u50 :: u51 :: u52 :: u53 :: u54 :: u55 :: u56 :: u57 :: u58 :: u59 :: u60 :: u61 :: u62 :: u63 :: u64 :: u65 :: u66 :: u67 :: u68 :: u69 :: u70 :: u71 :: u72 :: u73 :: u74 :: u75 :: u76 :: u77 :: u78 :: u79 :: u80 :: u81 :: u82 :: u83 :: u84 :: u85 :: u86 :: u87 :: u88 :: u89 :: u90 :: u91 :: u92 :: u93 :: u94 :: u95 :: u96 :: u97 :: u98 :: u99 :: u100 :: u101 :: u102 :: u103 :: u104 :: u105 :: u106 :: u107 :: u108 :: u109 :: u110 :: u111 :: u112 :: u113 :: u114 :: u115 :: u116 :: u117 :: u118 :: u119 :: u120 :: u121 :: u122 :: u123 :: u124 :: u125 :: u126 :: u127 :: u128 :: u129 :: u130 :: u131 :: u132 :: u133 :: u134 :: u135 :: u136 :: u137 :: u138 :: u139 :: u140 :: u141 :: u142 :: u143 :: u144 :: u145 :: u146 :: u147 :: u148 :: u149 :: u150 :: u151 :: u152 :: u153 :: u154 :: u155 :: u156 :: u157 :: u158 :: u159 :: u160 :: u161 :: u162 :: u163 :: u164 :: u165 :: u166 :: u167 :: u168 :: u169 :: u170 :: u171 :: u172 :: u173 :: u174 :: u175 :: u176 :: u177 :: u178 :: u179 :: u180 :: u181 :: u182 :: u183 :: u184 :: u185 :: u186 :: u187 :: u188 :: u189 :: u190 :: u191 :: u192 :: u193 :: u194 :: u195 :: u196 :: u197 :: u198 :: u199 :: u200 :: u201 :: u202 :: u203 :: u204 :: u205 :: u206 :: u207 :: u208 :: u209 :: u210 :: u211 :: u212 :: u213 :: u214 :: u215 :: u216 :: u217 :: u218 :: u219 :: u220 :: u221 :: u222 :: u223 :: u224 :: u225 :: u226 :: u227 :: u228 :: u229 :: u230 :: u231 :: u232 :: u233 :: u234 :: u235 :: u236 :: u237 :: u238 :: u239 :: u240 :: u241 :: u242 :: u243 :: u244 :: u245 :: u246 :: u247 :: u248 :: u249 :: u250 :: u251 :: u252 :: u253 :: u254 :: u255 :: u256 :: u257 :: u258 :: u259 :: u260 :: u261 :: u262 :: u263 :: u264 :: u265 :: u266 :: u267 :: u268 :: u269 :: u270 :: u271 :: u272 :: u273 :: u274 :: u275 :: u276 :: u277 :: u278 :: u279 :: u280 :: u281 :: u282 :: u283 :: u284 :: u285 :: u286 :: u287 :: u288 :: u289 :: u290 :: u291 :: u292 :: u293 :: u294 :: u295 :: u296 :: u297 :: u298 :: u299 :: u300 :: u301 :: u302 :: u303 :: u304 :: u305 :: u306 :: u307 :: u308 :: u309 :: u310 :: u311 :: u312 :: u313 :: [])), []⟩ w5 := by
  obtain ⟨htl2, hti2⟩ := tiX_len ht
  have hnm : nm.length ≤ s.length := by have := hR5.len; omega
  have hsf2 : t2 <:+ s := (tiX_sfx ht).trans hR5.sf
  have TC := Lib.hid (titleR_c b s tt w5 hR5 (by omega))
  rw [ht] at TC
  have HA1 := Lib.hid (HAS.out.trans (asN_ok ht))
  obtain ⟨A, hA⟩ : ∃ A, A = wsX t2 := ⟨_, rfl⟩
  have hsfA : A <:+ s := by rw [hA]; exact (List.dropWhile_suffix blk).trans hsf2
  have hAl : A.length ≤ t2.length := by rw [hA]; exact wsX_len t2
  have BD := Lib.hid (fun W h => blanksR_c b s t2 0 W h (by omega))
  have HV := Lib.hid (vaX_eq t2)
  rw [← hA] at BD HV h3 hq8 h4 h5
  clear hA ht HAS
  have hbn : b < w5.heap.size := by omega
  have hqn : w.heap.size + 1 < w5.heap.size := by omega
  have HV1 := Lib.hid (show vaX t2 = (if pre [q8] (wsX (A.drop 1)) = false then .error 1 else match toS [q8] ((wsX (A.drop 1)).drop 1) with | none => .error 1 | some (v, r) => if 60 ∈ v then .error 1 else if (Tk v).2 then .ok ((Tk v).1, r) else .error 1) by have e := HV.out; rw [if_neg (by simp [h3]), ← hq8] at e; exact e)
  have hA1 := pre_len h3
  simp only [List.length_cons, List.length_nil] at hA1
  have PC := Lib.hid (fun W h => passR_yes [61] (by decide) b s A W h (by omega) h3)
  simp only [List.length_singleton] at PC
  have BE := Lib.hid (fun W h => blanksR_c b s (A.drop 1) 0 W h (by omega))
  obtain ⟨A2, hA2⟩ : ∃ A2, A2 = wsX (A.drop 1) := ⟨_, rfl⟩
  have hsf2 : A2 <:+ s := by rw [hA2]; exact ((List.dropWhile_suffix blk).trans (List.drop_suffix _ _)).trans hsfA
  have hA2l : A2.length ≤ A.length - 1 := by rw [hA2, ← List.length_drop]; exact wsX_len _
  rw [← hA2] at BE HV1 hq8 h4 h5
  obtain ⟨K, hK⟩ : ∃ K, K = s.length - A2.length := ⟨_, rfl⟩
  have hd2 := sfx_drop hsf2
  rw [← hK] at hd2
  have HK := Lib.hid hK
  have SC := Lib.hid (fun W => startsAt_c s [39] K (by omega) (by decide) (by omega) W)
  rw [hd2] at SC
  have HQ8 := Lib.hid hq8
  clear hK hd2 h3 hq8 hA2 HV
  have HV2 := Lib.hid (show vaX t2 = (match toS [q8] (A2.drop 1) with | none => .error 1 | some (v, r) => if 60 ∈ v then .error 1 else if (Tk v).2 then .ok ((Tk v).1, r) else .error 1) from by have e := HV1.out; rw [if_neg (by simp [h4])] at e; exact e)
  have hA3 := pre_len h4
  simp only [List.length_cons, List.length_nil] at hA3
  have PQ := Lib.hid (fun W h => passR_yes [q8] (by simp) b s A2 W h (by omega) h4)
  simp only [List.length_singleton] at PQ
  clear h4 HV1
  obtain ⟨i0, hi, hz0, hz1, hz2⟩ := info_parts Tryz.infoAtr
  have hnn : l1 = out.length := by obtain ⟨_, _, e, -⟩ := own_shp hO5; simp only [Value.slice.injEq] at e; exact e.2.1
  subst hnn
  have SKC := Lib.hid (fun W h => skipR_yes [q8] (by simp) (by simp) b s (A2.drop 1) v u W h (by omega) h5)
  obtain ⟨hvl, hul⟩ := toS_len2 h5 (by simp)
  rw [List.length_drop] at hvl hul
  have NXC := Lib.hid (fun W => ltIn_c v (by omega) W)
  rw [nx_no v h6] at NXC
  have TDC := Lib.hid (fun W => toldR_yes v (by omega) b W h7)
  have HA2 := Lib.hid (show atrX t1 = (if atX (out ++ [(nm, (Tk v).1)]) ≠ 0 then .error 6 else asF (j - 1) u (out ++ [(nm, (Tk v).1)])) by have e := HA1.out; rw [HV2.out, h5] at e; simp only [if_neg h6, h7, if_true] at e; exact e)
  obtain ⟨y, hy⟩ : ∃ y, y = (Tk v).1 := ⟨_, rfl⟩
  rw [← hy] at TDC HA2 h8
  have HNL2 := Lib.hid (show ∀ a ∈ out ++ [(nm, y)], a.1.length ≤ s.length from fun a ha => by
    rcases List.mem_append.1 ha with h | h
    · exact HNL.out a h
    · rw [List.mem_singleton] at h; subst h; exact hnm)
  have hul2 : u.length < T := by omega
  clear h5 h6 h7 HV2 HA1 hy
  have ER := Lib.hid (show atrX t1 = .error 6 by rw [HA2.out, if_pos h8])
  obtain ⟨q', hq'⟩ : ∃ q', q' = atX (out ++ [(nm, y)]) := ⟨_, rfl⟩
  rw [← hq'] at h8
  have HQ' := Lib.hid hq'
  have hq1 : (q' != 0) = true := by simpa using h8
  have hq3 : (q' == 0) = false := by simpa using h8
  clear hq' h8
  conv => arg 2; whnf
  go_upto_if 100 with (first | (go_at_call 45; (with_reducible refine TC.out.mono ?_); rintro e w6 ⟨hg6, rfl, hR6⟩; have hs6 := hg6.size; have n1 : b ≠ w6.heap.size := (by omega); have n2 : w.heap.size + 1 ≠ w6.heap.size := (by omega); have n3 : w.heap.size ≠ w6.heap.size := (by omega); have V7 := Vy.new (nm := nm) hC5 hO5 hg6 hR6 hbb hqb hz5; obtain ⟨⟨c0, c2⟩, ⟨m0, m1, m2, m3, g1⟩, ⟨z0, z1, z2, z3, y0, y1, y2, y3⟩, ⟨x1, x2, x4⟩⟩ := V7.cells) | (go_at_call 42; (with_reducible refine (BD.out _ V7.rd).mono ?_); rintro e w8 ⟨rfl, hR8, hg8⟩; have V8 := V7.of_gb hg8 hR8; clear c0 c2 m0 m1 m2 m3 g1 z0 z1 z2 z3 y0 y1 y2 y3 x1 x2 x4; obtain ⟨⟨c0, c2⟩, ⟨m0, m1, m2, m3, g1⟩, ⟨z0, z1, z2, z3, y0, y1, y2, y3⟩, ⟨x1, x2, x4⟩⟩ := V8.cells) | (go_at_call 44; (with_reducible refine (PC.out _ V8.rd).mono ?_); rintro e w9 ⟨rfl, hR9, hg9⟩; have V9 := V8.of_gb hg9 hR9; clear c0 c2 m0 m1 m2 m3 g1 z0 z1 z2 z3 y0 y1 y2 y3 x1 x2 x4; obtain ⟨⟨c0, c2⟩, ⟨m0, m1, m2, m3, g1⟩, ⟨z0, z1, z2, z3, y0, y1, y2, y3⟩, ⟨x1, x2, x4⟩⟩ := V9.cells) | (go_at_call 42; (with_reducible refine (BE.out _ V9.rd).mono ?_); rintro e wa ⟨rfl, hRa, hga⟩; have Va := V9.of_gb hga hRa; clear c0 c2 m0 m1 m2 m3 g1 z0 z1 z2 z3 y0 y1 y2 y3 x1 x2 x4; obtain ⟨⟨c0, c2⟩, ⟨m0, m1, m2, m3, g1⟩, ⟨z0, z1, z2, z3, y0, y1, y2, y3⟩, ⟨x1, x2, x4⟩⟩ := Va.cells; have cK := (hRa.at_ HK.out).2.1) | go_quiet (first | (go_at_call 47; (with_reducible exact quiet_eq (SC.out _)))))
  go_cut [7] from 92 to 150 (fun v wx => v = .string ⟨#[q8]⟩ ∧ Qt wa wx)
  case first =>
    have hq8 := HQ8.out
    clear SC
    cases hp : pre [39] A2 with
    | true =>
      rw [hp] at hq8
      obtain rfl : q8 = 39 := by simpa using hq8
      clear hp hq8 HQ8
      go_wp2
      go_meet
      case rel => exact ⟨rfl, (Qt.refl _).drewN _⟩
    | false =>
      rw [hp] at hq8
      obtain rfl : q8 = 34 := by simpa using hq8
      clear hp hq8 HQ8
      go_wp2
      go_meet
      case rel => exact ⟨rfl, (Qt.refl _).drewN _⟩
  case rest =>
    obtain ⟨rfl, hqb⟩ := hcut
    obtain ⟨wb, hwb⟩ : ∃ wb : World, wb = wc := ⟨_, rfl⟩
    subst hwb
    have Vb := Va.of_bl hqb.bl
    clear c0 c2 m0 m1 m2 m3 g1 z0 z1 z2 z3 y0 y1 y2 y3 x1 x2 x4; obtain ⟨⟨c0, c2⟩, ⟨m0, m1, m2, m3, g1⟩, ⟨z0, z1, z2, z3, y0, y1, y2, y3⟩, ⟨x1, x2, x4⟩⟩ := Vb.cells
    go_wp2_with (first | (go_at_call 44; (with_reducible refine (PQ.out _ Vb.rd).mono ?_); rintro e wp ⟨rfl, hRp, hgp⟩; have Vp := Vb.of_gb hgp hRp; clear c0 c2 m0 m1 m2 m3 g1 z0 z1 z2 z3 y0 y1 y2 y3 x1 x2 x4; obtain ⟨⟨c0, c2⟩, ⟨m0, m1, m2, m3, g1⟩, ⟨z0, z1, z2, z3, y0, y1, y2, y3⟩, ⟨x1, x2, x4⟩⟩ := Vp.cells) | (go_at_call 48; (with_reducible refine (SKC.out _ Vp.rd).mono ?_); rintro e wk ⟨rfl, hRk, hgk⟩; have Vk := Vp.of_gb hgk hRk; clear c0 c2 m0 m1 m2 m3 g1 z0 z1 z2 z3 y0 y1 y2 y3 x1 x2 x4; obtain ⟨⟨c0, c2⟩, ⟨m0, m1, m2, m3, g1⟩, ⟨z0, z1, z2, z3, y0, y1, y2, y3⟩, ⟨x1, x2, x4⟩⟩ := Vk.cells) | (go_at_call 49; (with_reducible refine (NXC.out _).mono ?_); rintro e wn ⟨rfl, rfl⟩) | (go_at_call 50; (with_reducible refine (TDC.out _).mono ?_); rintro e wt ⟨rfl, hbt⟩; have Vt := Vk.of_bl hbt; have Vs := Vt.setv y; clear c0 c2 m0 m1 m2 m3 g1 z0 z1 z2 z3 y0 y1 y2 y3 x1 x2 x4; obtain ⟨⟨c0, c2⟩, ⟨m0, m1, m2, m3, g1⟩, ⟨z0, z1, z2, z3, y0, y1, y2, y3⟩, ⟨x1, x2, x4⟩⟩ := Vt.cells) | (at_builtin; refine Hid.out ?_))
    refine Lib.hid ?_
    refine wpList_append_own _ rfl _ _ 22 rfl base 39 i0 (.agg #[.string ⟨#[]⟩, .string ⟨#[]⟩]) 2 32 Tryz.underlying22 hi hz0 hz1 hz2 rfl (by decide) (.slice a1 out.length c1) out.length (atC out) rfl (World.ownsRow.alloc Vs.own _) ⟨wt.heap.size, 0, none⟩ 1 1 [.string ⟨nm.toArray⟩, .string ⟨y.toArray⟩] rfl rfl (by have h9 := new_cells (wt.setCell ⟨w6.heap.size, 1, none⟩ (.string ⟨y.toArray⟩)) #[.string ⟨nm.toArray⟩, .string ⟨y.toArray⟩] 39; simpa using h9) (by simp [Value.oneCell']) (by unfold maxLen; omega) (by omega) (by have := Vs.size; simp at this ⊢; omega) ?_
    intro v' wz hown' hgrow _
    obtain ⟨a2, l2, c2, rfl, hCz, hC9, hO9, hRz, hR9, hz9⟩ := Vs.app (val := y) hown' hgrow
    clear hown' hgrow
    obtain ⟨m0, m1, m2, m3, g0, g1, g2, g3⟩ := hCz.nb.cells
    have k2 := hRz.rk.cells.2.2.1
    obtain ⟨e0, e1, e2, e3, -⟩ := hC9.nb.cells
    have k9 := hR9.rk.cells.2.2.1
    have ACC := Lib.hid (checkAttrsT_c (out ++ [(nm, y)]) (.slice a2 l2 c2) (by simp; omega) (fun a ha => by have := HNL2.out a ha; omega) _ hO9.ats)
    rw [← HQ'.out] at ACC
    go_wp2_with (first | (go_at_call 41; (with_reducible refine ACC.out.mono ?_); rintro e wy ⟨rfl, hby⟩; have hC10 := hC9.of_bl hby; have hR10 := hR9.of_bl hby; have hO10 := hO9.of_bl hby; have hz10 := Nat.le_trans hz9 (Below.size hby); have k10 := hR10.rk.cells.2.2.1) | (go_at_call 23; (with_reducible refine (failR_c 6 (by decide) b s u _ hR10).mono ?_); rintro e wf ⟨rfl, hRf, hgf⟩; have hCf := hC10.of_gb hgf; have hzf := Nat.le_trans hz10 hgf.size))
    exact ay_err hzf hCf hRf (by decide) ER.out
 end Go.Proofs.YtkacjnifhmgeiaaGreatDoor

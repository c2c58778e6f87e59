/- Tokens: the reference: nextOf, AttrBytes, TokenBytes, CheckAttrs. · Words: does a word stand in a text: the library's way and the reference's. · Words: the law FindMarked, said plainly: marks change no word, and words are their own words. -/
import Derived.Test.YtamdlihgecpbkaaGreatDoorTokBy
import Derived.Test.YtamdlihgecpbkaaGreatDoorGrpI
import Derived.Lib.IndexMore
set_option maxRecDepth 100000
set_option maxHeartbeats 4000000
namespace Go.Proofs.YtamdlihgecpbkaaGreatDoor
open Go.RowKit
def nxI (s p : List UInt8) (a : Nat) : Int := match cutS p (s.drop a) with | none => -1 | some r => (s.length : Int) - r.length - p.length
theorem cutS_short (p : List UInt8) : ∀ l : List UInt8, l.length < p.length → cutS p l = none := by
 intro l; induction l with
 | nil => intro _; rfl
 | cons c l ih =>
   intro h; unfold cutS; have : pre p (c :: l) = false := by
    cases e : pre p (c :: l)
    · rfl
    · have := pre_len e; omega
   rw [this, ih (by simp at h; omega)]; rfl
theorem cutS_no {p : List UInt8} {c : UInt8} {r : List UInt8} (h : pre p (c :: r) = false) : cutS p (c :: r) = cutS p r := by
 rw [show cutS p (c :: r) = if pre p (c :: r) then some ((c :: r).drop p.length) else cutS p r from rfl, h]; rfl
theorem cutS_yes {p : List UInt8} {c : UInt8} {r : List UInt8} (h : pre p (c :: r) = true) : cutS p (c :: r) = some ((c :: r).drop p.length) := by
 rw [show cutS p (c :: r) = if pre p (c :: r) then some ((c :: r).drop p.length) else cutS p r from rfl, h]; rfl
theorem nextOf_c (s p : List UInt8) (a : Nat) (hs : s.length ≤ 4294967296) (hp : p ≠ []) (hp2 : p.length ≤ 1000) (ha : a ≤ s.length) (w : World) :
 Calls Tryz.prog 38 #[.string ⟨s.toArray⟩, .int .i64 (a : Int), .string ⟨p.toArray⟩] w fun e w' => e = .returned (.int .i64 (nxI s p a)) ∧ w = w' := by
 have hp3 : 0 < p.length := List.length_pos_iff.2 hp; have SC := Lib.hid (fun k hk W => startsAt_c s p k (by omega) hp2 hk W); go_enter Tryz.func38, Tryz.ntmps38; go_wp2; go_loop [1] (fun i => ∃ k : Nat, k ≤ s.length ∧ i = .int .i64 k ∧ Hid (cutS p (s.drop a) = cutS p (s.drop k))) (fun i => s.length - (intOf i).toNat); case atStart => exact ⟨a, ha, rfl, Lib.hid rfl⟩
 case round =>
  obtain ⟨k, hk, rfl, HC⟩ := hrel; by_cases hlt : k + p.length ≤ s.length
  · have SK := SC.out k hk; have HD := Lib.hid (show s.drop k = s[k] :: s.drop (k + 1) from List.drop_eq_getElem_cons (by omega)); cases hY : pre p (s.drop k)
    · rw [hY] at SK; have HK := Lib.hid SK; have HE := Lib.hid (show cutS p (s.drop k) = cutS p (s.drop (k + 1)) by
       rw [HD.out] at hY ⊢; exact cutS_no hY)
      clear SK hY; go_wp2_with (go_at_call 69; (with_reducible refine (HK.out _).mono ?_); rintro e w7 ⟨rfl, rfl⟩); go_round; case rel => exact ⟨k + 1, by omega, by go_num, Lib.hid (HC.out.trans HE.out)⟩
      case measure => simp [intOf]; omega
    · rw [hY] at SK; have HK := Lib.hid SK; have HE := Lib.hid (show nxI s p a = k by
       unfold nxI; rw [HC.out]; have : cutS p (s.drop k) = some (s.drop (k + p.length)) := by
        rw [HD.out] at hY ⊢; rw [cutS_yes hY, ← HD.out, List.drop_drop]
       rw [this]; simp only [List.length_drop]; omega)
      clear SK hY; go_wp2_with (go_at_call 69; (with_reducible refine (HK.out _).mono ?_); rintro e w7 ⟨rfl, rfl⟩); go_ret; exact ⟨by rw [HE.out]; rfl, rfl⟩
  · have HE := Lib.hid (show nxI s p a = -1 by
     unfold nxI; rw [HC.out, cutS_short p _ (by simp; omega)])
    go_wp2; go_ret; exact ⟨by rw [HE.out]; rfl, rfl⟩
theorem pre_prefix (p : List UInt8) : ∀ l, pre p l = p.isPrefixOf l := by
 induction p with
 | nil => intro l; cases l <;> simp [pre]
 | cons c p ih => intro l; cases l <;> simp [pre]
theorem ix_cut (p : List UInt8) (hp : p ≠ []) : ∀ l, decide (0 ≤ Lib.index l p) = (cutS p l).isSome := by
 have hge : ∀ l, -1 ≤ Lib.index l p := by
  intro l; induction l with
  | nil => unfold Lib.index; split <;> decide
  | cons b l ih => unfold Lib.index; split; · decide
                   · split
                     · decide
                     · omega
 intro l; induction l with
 | nil =>
   unfold Lib.index; rw [if_neg (by cases p <;> simp_all)]; rfl
 | cons b l ih =>
   cases h : pre p (b :: l) with
   | true =>
     rw [cutS_yes h, Lib.index, if_pos (by rw [← pre_prefix]; exact h)]; rfl
   | false =>
     rw [cutS_no h, Lib.index, if_neg (by rw [← pre_prefix, h]; simp), ← ih]; have := hge l; by_cases e : Lib.index l p = -1
     · rw [e]; rfl
     · rw [if_neg (by simpa using e)]; rw [decide_eq_decide]; omega
theorem cutS_room (p : List UInt8) : ∀ (l u : List UInt8), cutS p l = some u → u.length + p.length ≤ l.length := by
 intro l; induction l with
 | nil => intro u h; cases h
 | cons b l ih =>
   intro u h; cases e : pre p (b :: l) with
   | true =>
     rw [cutS_yes e] at h; cases h; have := pre_len e; rw [List.length_drop]; omega
   | false =>
     rw [cutS_no e] at h; have := ih u h; simp only [List.length_cons]; omega
theorem ct_nx (s p : List UInt8) (hp : p ≠ []) : Lib.contains s p = decide (0 ≤ nxI s p 0) := by
 unfold Lib.contains; rw [ix_cut p hp s]; unfold nxI; rw [List.drop_zero]; cases h : cutS p s with
 | none => rfl
 | some u =>
   have hr := cutS_room p s u h; simp only [Option.isSome_some]; symm; rw [decide_eq_true_iff]; omega
def wdT (t : List UInt8) : List UInt8 := jnW (fdG t [])
theorem wdU_T (s : List UInt8) : wdU s = wdT (tlL (ofM (TokL s))) := by unfold wdU wdT; rw [fd_lib]
theorem PutL_app (a b : List UInt8) : PutL (a ++ b) = PutL a ++ PutL b := by unfold PutL; rw [List.flatMap_append]
def txT (t : List UInt8) : List Tok := if t = [] then [] else [(1, [], [], t)]
theorem txT_W (t : List UInt8) : tksW (txT t) = PutL t := by
 unfold txT; by_cases h : t = []
 · subst h; rfl
 · rw [if_neg h]; simp [tksW, tkW]
theorem tok_put (t : List UInt8) : TokL (PutL t) = txT t := by
 rw [← txT_W]; refine TokL_written _ ?_; unfold txT; by_cases h : t = []
 · subst h; rfl
 · rw [if_neg h]; simp [ckE, tkEF, tkE, h]
theorem tl_put (t : List UInt8) : tlL (ofM (TokL (PutL t))) = t := by
 rw [tok_put]; unfold txT; by_cases h : t = []
 · subst h; rfl
 · rw [if_neg h]; have : ofM [(1, [], [], t)] = [.mk [] [] t []] := rfl; rw [this]; simp [tlL, tlN, em_nil, ap_nil]
theorem wd_put (t : List UInt8) : wdU (PutL t) = wdT t := by rw [wdU_T, tl_put]
theorem fdG_ok (l : List UInt8) : ∀ cur, (∀ c ∈ cur, wht c = false) → ∀ x ∈ fdG l cur, x ≠ [] ∧ ∀ c ∈ x, wht c = false := by
 induction l with
 | nil =>
   intro cur hc x hx; rw [fdG] at hx; split at hx
   · simp at hx
   · rename_i h; simp only [List.mem_singleton] at hx; subst hx; exact ⟨h, hc⟩
 | cons c l ih =>
   intro cur hc x hx; rw [fdG] at hx; split at hx
   · split at hx
     · exact ih [] (fun c h => by simp at h) x hx
     · rename_i h; rcases List.mem_cons.1 hx with rfl | hx
       · exact ⟨h, hc⟩
       · exact ih [] (fun c h => by simp at h) x hx
   · rename_i hw; refine ih (cur ++ [c]) (fun d hd => ?_) x hx; rcases List.mem_append.1 hd with h | h
     · exact hc d h
     · simp only [List.mem_singleton] at h; subst h; simpa using hw
theorem fd_one (x r : List UInt8) (hx : x ≠ []) (hw : ∀ c ∈ x, wht c = false) : fdG (x ++ 32 :: r) [] = x :: fdG r [] := by
 rw [fdG_run x hw, List.nil_append, fdG, if_pos (by rfl), if_neg hx]
theorem fd_end (x : List UInt8) (hx : x ≠ []) (hw : ∀ c ∈ x, wht c = false) : fdG x [] = [x] := by
 have := fdG_run x hw [] []; rw [List.append_nil] at this; rw [this, List.nil_append, fdG, if_neg hx]
theorem fd_jn (F : List (List UInt8)) (h : ∀ x ∈ F, x ≠ [] ∧ ∀ c ∈ x, wht c = false) : fdG (jnW F) [] = F := by
 induction F with
 | nil => rfl
 | cons x F ih =>
   obtain ⟨h1, h2⟩ := h x (by simp); have ih := ih (fun y hy => h y (List.mem_cons_of_mem _ hy)); cases F with
   | nil =>
     have : jnW [x] = x := Lib.join_one x [32]; rw [this]; exact fd_end x h1 h2
   | cons y F =>
     have : jnW (x :: y :: F) = x ++ 32 :: jnW (y :: F) := by
      unfold jnW Lib.join; simp [List.intercalate, List.intersperse]
     rw [this, fd_one x _ h1 h2, ih]
theorem wd_wd (t : List UInt8) : wdT (wdT t) = wdT t := by
 unfold wdT; rw [fd_jn _ (fdG_ok t [] (fun c h => by simp at h))]
theorem fd_len (l : List UInt8) : ∀ cur, (jnW (fdG l cur)).length ≤ cur.length + l.length := by
 have H : ∀ (x : List UInt8) (F : List (List UInt8)), (jnW (x :: F)).length ≤ x.length + (if F = [] then 0 else 1 + (jnW F).length) := by
  intro x F; cases F with
  | nil => rw [show jnW [x] = x from Lib.join_one x [32]]; simp
  | cons y F =>
    have : jnW (x :: y :: F) = x ++ 32 :: jnW (y :: F) := by
     unfold jnW Lib.join; simp [List.intercalate, List.intersperse]
    rw [this, if_neg (by simp)]; simp only [List.length_append, List.length_cons]; omega
 induction l with
 | nil =>
   intro cur; rw [fdG]; split
   · simp [jnW, Lib.join, List.intercalate]
   · rw [show jnW [cur] = cur from Lib.join_one cur [32]]; simp
 | cons c l ih =>
   intro cur; rw [fdG]; split
   · split
     · have := ih []; simp only [List.length_cons, List.length_nil] at this ⊢; omega
     · have h1 := H cur (fdG l []); have h2 := ih []; simp only [List.length_cons, List.length_nil] at h2 ⊢; split at h1 <;> omega
   · have := ih (cur ++ [c]); simp only [List.length_append, List.length_cons, List.length_nil] at this ⊢; omega
theorem wd_len (t : List UInt8) : (wdT t).length ≤ t.length := by
 have := fd_len t []; simpa [wdT] using this
theorem fd_tail (l : List UInt8) (c : UInt8) (hc : wht c = true) : ∀ cur, fdG (l ++ [c]) cur = fdG l cur := by
 induction l with
 | nil =>
   intro cur; simp only [List.nil_append, fdG, hc, if_true]
 | cons d l ih =>
   intro cur; rw [List.cons_append, fdG, fdG, ih, ih]
theorem wd_ends (t : List UInt8) : wdT (32 :: t ++ [10]) = wdT t := by
 unfold wdT; rw [fd_tail _ 10 (by decide), fdG, if_pos (by decide), if_pos rfl]
def nB : List UInt8 := [98]
def nEm : List UInt8 := [101, 109]
def mk2 (a b : List UInt8) : List Tok := [(2, nB, [], [])] ++ txT a ++ [(3, nB, [], []), (2, sA, [], [])] ++ txT b ++ [(3, sA, [], [])]
def mk3 (t : List UInt8) : List Tok := [(1, [], [], [32]), (2, nEm, [], [])] ++ txT t ++ [(3, nEm, [], []), (1, [], [], [10])]
theorem mk2_W (a b : List UInt8) : tksW (mk2 a b) = [60, 98, 62] ++ PutL a ++ [60, 47, 98, 62, 60, 97, 62] ++ PutL b ++ [60, 47, 97, 62] := by
 have h : ∀ x y, tksW (x ++ y) = tksW x ++ tksW y := fun x y => by unfold tksW; rw [List.flatMap_append]
 unfold mk2; rw [h, h, h, h, txT_W, txT_W]; rfl
theorem mk3_W (t : List UInt8) : tksW (mk3 t) = [32, 60, 101, 109, 62] ++ PutL t ++ [60, 47, 101, 109, 62, 10] := by
 have h : ∀ x y, tksW (x ++ y) = tksW x ++ tksW y := fun x y => by unfold tksW; rw [List.flatMap_append]
 unfold mk3; rw [h, h, txT_W]; rfl
theorem tok_mk2 (a b : List UInt8) : TokL ([60, 98, 62] ++ PutL a ++ [60, 47, 98, 62, 60, 97, 62] ++ PutL b ++ [60, 47, 97, 62]) = mk2 a b := by
 rw [← mk2_W]; refine TokL_written _ ?_; unfold mk2 txT; by_cases ha : a = [] <;> by_cases hb : b = [] <;> simp [ha, hb, ckE, tkEF, tkE, nB, sA, isNm, lwr, atE, atEF]
theorem tok_mk3 (t : List UInt8) : TokL ([32, 60, 101, 109, 62] ++ PutL t ++ [60, 47, 101, 109, 62, 10]) = mk3 t := by
 rw [← mk3_W]; refine TokL_written _ ?_; unfold mk3 txT; by_cases ht : t = [] <;> simp [ht, ckE, tkEF, tkE, nEm, isNm, lwr, atE, atEF, nmc]
theorem tl_mk2 (a b : List UInt8) : tlL (ofM (mk2 a b)) = a ++ b := by
 have e1 : emptyN nB = false := by decide
 have e2 : apN nB = false := by decide
 have e3 : emptyN sA = false := by decide
 have e4 : apN sA = false := by decide
 unfold mk2 txT; by_cases ha : a = []
 · by_cases hb : b = []
   · subst ha; subst hb; rfl
   · subst ha; rw [if_pos rfl, if_neg hb]; have : ofM ([(2, nB, [], [])] ++ [] ++ [(3, nB, [], []), (2, sA, [], [])] ++ [(1, [], [], b)] ++ [(3, sA, [], [])]) = [.mk nB [] [] [], .mk sA [] [] [.mk [] [] b []]] := rfl; rw [this]; simp [tlL, tlN, em_nil, ap_nil, e1, e2, e3, e4]
 · by_cases hb : b = []
   · subst hb; rw [if_neg ha, if_pos rfl]; have : ofM ([(2, nB, [], [])] ++ [(1, [], [], a)] ++ [(3, nB, [], []), (2, sA, [], [])] ++ [] ++ [(3, sA, [], [])]) = [.mk nB [] [] [.mk [] [] a []], .mk sA [] [] []] := rfl; rw [this]; simp [tlL, tlN, em_nil, ap_nil, e1, e2, e3, e4]
   · rw [if_neg ha, if_neg hb]; have : ofM ([(2, nB, [], [])] ++ [(1, [], [], a)] ++ [(3, nB, [], []), (2, sA, [], [])] ++ [(1, [], [], b)] ++ [(3, sA, [], [])]) = [.mk nB [] [] [.mk [] [] a []], .mk sA [] [] [.mk [] [] b []]] := rfl; rw [this]; simp [tlL, tlN, em_nil, ap_nil, e1, e2, e3, e4]
theorem tl_mk3 (t : List UInt8) : tlL (ofM (mk3 t)) = 32 :: t ++ [10] := by
 have e1 : emptyN nEm = false := by decide
 have e2 : apN nEm = false := by decide
 unfold mk3 txT; by_cases ht : t = []
 · subst ht; rfl
 · rw [if_neg ht]; have : ofM ([(1, [], [], [32]), (2, nEm, [], [])] ++ [(1, [], [], t)] ++ [(3, nEm, [], []), (1, [], [], [10])]) = [.mk [] [] [32] [], .mk nEm [] [] [.mk [] [] t []], .mk [] [] [10] []] := rfl; rw [this]; simp [tlL, tlN, em_nil, ap_nil, e1, e2]
theorem marked (a b : List UInt8) : wdU (PutL a ++ PutL b) = wdT (a ++ b) ∧
 wdU ([60, 98, 62] ++ PutL a ++ [60, 47, 98, 62, 60, 97, 62] ++ PutL b ++ [60, 47, 97, 62]) = wdT (a ++ b) ∧
 wdU ([32, 60, 101, 109, 62] ++ (PutL a ++ PutL b) ++ [60, 47, 101, 109, 62, 10]) = wdT (a ++ b) ∧
 wdU (PutL (wdT (a ++ b))) = wdT (a ++ b) := by
 refine ⟨?_, ?_, ?_, ?_⟩
 · rw [← PutL_app, wd_put]
 · rw [wdU_T, tok_mk2, tl_mk2]
 · rw [wdU_T, ← PutL_app, tok_mk3, tl_mk3, wd_ends]
 · rw [wd_put, wd_wd]
end Go.Proofs.YtamdlihgecpbkaaGreatDoor

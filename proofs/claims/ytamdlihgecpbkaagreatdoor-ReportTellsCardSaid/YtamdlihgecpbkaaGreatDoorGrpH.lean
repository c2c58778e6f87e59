/- Tokens: step. · Tokens: step: tags. · Tokens: step: what is passed. · Tokens: step whole; try; All; Read. · Tokens: All; Read. · A struct of this program that holds a strings.Builder and nothing else: written to, told. · Trees: plain laws: what is built is right; built of its own tokens it is the same; walls; texts. · Shelves: what checking and keeping answer, said by plain functions. -/
import Derived.Test.YtamdlihgecpbkaaGreatDoorGrpG
import Derived.Recover
import Derived.Test.YtamdlihgecpbkaaGreatDoorGrpF
import Derived.Test.YtamdlihgecpbkaaGreatDoorGrpD
import Derived.Lib.Bytealg
import Derived.Shelf.Spec.SearchS
set_option maxRecDepth 100000
set_option maxHeartbeats 4000000
namespace Go.Proofs.YtamdlihgecpbkaaGreatDoor
open Go.RowKit
def stP (t x : List UInt8) (l : List Tok) : Option (List UInt8 × List UInt8 × List Tok) :=
 match t with
 | [] => some ([], x, l)
 | c :: r =>
   if c = 60 then match tagP r with
    | none => some (r, x ++ [60], l)
    | some none => none
    | some (some (none, u)) => some (u, x, l)
    | some (some (some k, u)) => if isNm k.2.1 then some (u, [], flsh x l ++ [k]) else some (u, x, l)
   else some ((c :: r).dropWhile not60, x ++ (c :: r).takeWhile not60, l)
theorem not60_iff (c : UInt8) : not60 c = true ↔ c ≠ 60 := by
 have h1 : c.toNat = 60 ↔ c = 60 := ⟨fun h => UInt8.toNat_inj.1 h, fun h => by rw [h]; rfl⟩; simp [not60, h1]
theorem tw_not60 (t : List UInt8) : 60 ∉ t.takeWhile not60 := by
 intro h; have := mem_tw h; exact absurd this (by decide)
theorem tkP_st (t x : List UInt8) (l : List Tok) (ht : t ≠ []) : tkP t x l = (match stP t x l with | none => flsh (x ++ t) l | some (u, x', l') => tkP u x' l') := by
 cases t with
 | nil => exact absurd rfl ht
 | cons c r =>
   unfold stP; simp only []; by_cases hc : c = 60
   · subst hc; rw [if_pos rfl]; cases h : tagP r with
     | none => exact tkP_lone r x l h
     | some o =>
       cases o with
       | none => exact tkP_open r x l h
       | some p =>
         obtain ⟨k, u⟩ := p; cases k with
         | none => exact tkP_skip r u x l h
         | some k =>
           simp only []; cases hn : isNm k.2.1
           · simp only [Bool.false_eq_true, if_false]; exact tkP_tagno r u x k l h hn
           · simp only [if_true]; exact tkP_tag r u x k l h hn
   · rw [if_neg hc]; have := tkP_run ((c :: r).takeWhile not60) ((c :: r).dropWhile not60) x l (tw_not60 _); rw [List.takeWhile_append_dropWhile] at this; exact this
theorem tagP_len2 (t : List UInt8) (k : Tok) (r : List UInt8) (h : tagP t = some (some (some k, r))) : r.length + 2 ≤ t.length := by
 cases t with
 | nil => cases h
 | cons c s =>
   rw [tagP_cons] at h; split at h
   · rename_i hc; cases e : atP ((c :: s).dropWhile tch) [] with
     | none => rw [e] at h; simp at h
     | some x =>
       rw [e] at h; simp only [Option.map_some, Option.some.injEq, Prod.mk.injEq] at h; obtain ⟨_, rfl⟩ := h; have h1 := atF_len _ _ _ _ _ e; have hw : tch c = true := by
        have : (97 ≤ c.toNat ∧ c.toNat ≤ 122) ∨ (65 ≤ c.toNat ∧ c.toNat ≤ 90) := by
         simp only [ltr, lwr, Bool.or_eq_true, Bool.and_eq_true, decide_eq_true_eq] at hc; omega
        simp [tch, wht]; omega
       rw [List.dropWhile_cons_of_pos hw] at h1; have h2 := dw_len (p := tch) s; simp only [List.length_cons]; omega
   split at h
   · rename_i hc; cases e : cutS [62] (s.dropWhile tch) with
     | none => rw [e] at h; simp at h
     | some x =>
       rw [e] at h; simp only [Option.map_some, Option.some.injEq, Prod.mk.injEq] at h; obtain ⟨_, rfl⟩ := h; have h1 := cutS_len [62] (by simp) _ _ e; have h2 := dw_len (p := tch) s; simp only [List.length_cons]; omega
   split at h
   · cases e : cutS [45, 45, 62] s with
     | none => rw [e] at h; simp at h
     | some x => rw [e] at h; simp at h
   split at h
   · cases e : cutS [62] (c :: s) with
     | none => rw [e] at h; simp at h
     | some x => rw [e] at h; simp at h
   · cases h
theorem stP_len (t x : List UInt8) (l : List Tok) (ht : t ≠ []) (u x' : List UInt8) (l' : List Tok) (h : stP t x l = some (u, x', l')) : u.length < t.length ∧ x'.length + u.length ≤ x.length + t.length ∧ l'.length + u.length ≤ l.length + t.length := by
 cases t with
 | nil => exact absurd rfl ht
 | cons c r =>
   unfold stP at h; simp only [] at h; have hfl : (flsh x l).length ≤ l.length + 1 := by unfold flsh; split <;> simp
   split at h
   · cases e : tagP r with
     | none =>
       rw [e] at h; simp only [Option.some.injEq, Prod.mk.injEq] at h; obtain ⟨rfl, rfl, rfl⟩ := h; simp; omega
     | some o =>
       rw [e] at h; cases o with
       | none => simp at h
       | some p =>
         obtain ⟨k, u'⟩ := p; have hl := tagP_len _ _ _ e; cases k with
         | none =>
           simp only [Option.some.injEq, Prod.mk.injEq] at h; obtain ⟨rfl, rfl, rfl⟩ := h; simp only [List.length_cons]; omega
         | some k =>
           simp only [] at h; have hl2 := tagP_len2 _ _ _ e; split at h
           · simp only [Option.some.injEq, Prod.mk.injEq] at h; obtain ⟨rfl, rfl, rfl⟩ := h; simp only [List.length_cons, List.length_append, List.length_nil]; omega
           · simp only [Option.some.injEq, Prod.mk.injEq] at h; obtain ⟨rfl, rfl, rfl⟩ := h; simp only [List.length_cons]; omega
   · rename_i hc; simp only [Option.some.injEq, Prod.mk.injEq] at h; obtain ⟨rfl, rfl, rfl⟩ := h; have h1 := congrArg List.length (List.takeWhile_append_dropWhile (p := not60) (l := c :: r)); have h2 : (c :: r).takeWhile not60 = c :: r.takeWhile not60 := by rw [List.takeWhile_cons, if_pos ((not60_iff c).2 hc)]
     rw [List.length_append] at h1; rw [h2] at h1 ⊢; simp only [List.length_cons, List.length_append] at h1 ⊢; omega
theorem pre_one (p : UInt8) (q r : List UInt8) : pre (p :: q) (p :: r) = pre q r := by simp [pre]
theorem pre_ne {p c : UInt8} (q r : List UInt8) (h : c ≠ p) : pre (p :: q) (c :: r) = false := by
 have : (p == c) = false := beq_false_of_ne (Ne.symm h); simp only [pre, List.isPrefixOf, this, Bool.false_and]
theorem Bl.to_below {w w' : World} (h : Bl w w') (b : Nat) (hb : b ≤ w.heap.size) : Below b w w' := Below.mono h hb
def opR (r x : List UInt8) (l : List Tok) : Option (List UInt8 × List UInt8 × List Tok) := (atP (r.dropWhile tch) []).map fun y => if isNm (fold (r.takeWhile tch)) then (y.2, [], flsh x l ++ [(2, fold (r.takeWhile tch), y.1, [])]) else (y.2, x, l)
def clR (r x : List UInt8) (l : List Tok) : Option (List UInt8 × List UInt8 × List Tok) := (cutS [62] (r.dropWhile tch)).map fun u => if isNm (fold (r.takeWhile tch)) then (u, [], flsh x l ++ [(3, fold (r.takeWhile tch), [], [])]) else (u, x, l)
theorem letter1 (b : Nat) (s t x : List UInt8) (v : Value) (w : World) (hR : Rr w b s t x v) (hs : s.length ≤ 1099511627776) :
 Calls Tryz.prog 153 #[.pointer (some ⟨b, 0, none⟩), .int .i64 1] w fun e w' => e = .returned (.bool (hd ltr (t.drop 1))) ∧ Qt w w' := letterAt_r 1 (by omega) b s t x v w hR hs
theorem letter2 (b : Nat) (s t x : List UInt8) (v : Value) (w : World) (hR : Rr w b s t x v) (hs : s.length ≤ 1099511627776) :
 Calls Tryz.prog 153 #[.pointer (some ⟨b, 0, none⟩), .int .i64 2] w fun e w' => e = .returned (.bool (hd ltr (t.drop 2))) ∧ Qt w w' := letterAt_r 2 (by omega) b s t x v w hR hs
theorem step_text (b : Nat) (s t x : List UInt8) (l : List Tok) (v : Value) (w : World) (hR : Rr w b s t x v) (hT : TkO w (b + 1) v l) (hs : s.length ≤ 1073741824) (hx : x.length ≤ 1073741824) (h1 : pre [60] t = false) :
 Calls Tryz.prog 122 #[.pointer (some ⟨b, 0, none⟩)] w fun e w' => StEnd w b s x l (some (t.dropWhile not60, x ++ t.takeWhile not60, l)) e w' := by
 have hbw := hR.rk.lt; have BG := Lib.hid (fun p W h => begins_r p b s t x v W h (by omega)); have hRq := hR; have hQ := Bl.refl w; have hxl : (t.takeWhile not60).length ≤ s.length := Nat.le_trans (List.takeWhile_prefix _).length_le hR.len; have PC := Lib.hid (fun W h => pass_r _ not60 do_s1 b s t x v W h (by omega)); go_enter Tryz.func122, Tryz.ntmps122; go_wp2_with (first | (go_at_call 150; refine (BG.out _ _ hRq).mono ?_; rintro e wq ⟨rfl, hqq⟩; replace hRq := hRq.of_bl hqq.bl; replace hQ := hQ.trans hqq.bl)); obtain ⟨a0, a1, a2, a3, f0, f1, f2, f3⟩ := hRq.rk.cells; go_region_with (first | (go_at_call 151; (with_reducible refine (PC.out _ (hRq.of_bl Bl.z)).mono ?_); rintro e w1 ⟨rfl, hR1, hg1⟩; clear a0 a1 a2 a3 f0 f1 f2 f3; obtain ⟨a0, a1, a2, a3, f0, f1, f2, f3⟩ := hR1.rk.cells)); all_goals
  go_wp2; go_end0; have hgw := gb_set (gb_trans (gb_bl (b := some b) (hQ.trans Bl.z)) hg1) 2 (.string ⟨(x ++ t.takeWhile not60).toArray⟩); exact ⟨below_gb hgw (Nat.le_refl _) (Nat.le_of_lt hbw), FrT.of_gb hgw, rfl, v, ⟨hR1.rk.set2 _, hR1.sf⟩, hT.of_gb hgw (Nat.lt_succ_self _)⟩
theorem step_lone (b : Nat) (s t x : List UInt8) (l : List Tok) (v : Value) (w : World) (hR : Rr w b s t x v) (hT : TkO w (b + 1) v l) (hs : s.length ≤ 1073741824) (hx : x.length ≤ 1073741824) (_hl : l.length ≤ 1073741823) (_hE : ES w) (_hbE : 1 < b) (_hM : ML w) (_hbM : 0 < b) (c : UInt8) (r : List UInt8) (HT : Hid (t = c :: r))
 (h1 : pre [60] t = true) (h2 : pre [60, 47] t = false) (h3 : pre [60, 33, 45, 45] t = false) (h4 : pre [60, 33] t = false) (h5 : pre [60, 63] t = false) (h6 : hd ltr (List.drop 1 t) = false) :
 Calls Tryz.prog 122 #[.pointer (some ⟨b, 0, none⟩)] w fun e w' => StEnd w b s x l (some (r, x ++ [60], l)) e w' := by
 have hbw := hR.rk.lt; have BG := Lib.hid (fun p W h => begins_r p b s t x v W h (by omega)); have L1 := Lib.hid (fun W h => letter1 b s t x v W h (by omega)); have L2 := Lib.hid (fun W h => letter2 b s t x v W h (by omega)); have hRq := hR; have hQ := Bl.refl w; rw [List.drop_one] at h6 L1; obtain ⟨K, hK⟩ : ∃ K, s.length - (c :: r).length = K := ⟨_, rfl⟩; have HK := Lib.hid (show s.length - t.length = K by rw [HT.out]; exact hK); have hlc := hR.len; rw [HT.out] at hlc; have hKb : (K : Int) + 1 ≤ (s.length : Int) := by simp only [List.length_cons] at hK hlc; omega
 have HSK := Lib.hid (fun W (h : Rr W b s t (x ++ [60]) v) => (HT.out ▸ h : Rr W b s (c :: r) (x ++ [60]) v).skip hK); clear hK hlc; go_enter Tryz.func122, Tryz.ntmps122; go_wp2_with (first | (go_at_call 150; (with_reducible refine (BG.out _ _ hRq).mono ?_); rintro e wq ⟨rfl, hqq⟩; replace hRq := hRq.of_bl hqq.bl; replace hQ := hQ.trans hqq.bl; have hRTq : RT _ b s t x l := ⟨v, hRq, hT.of_bl hQ⟩; (try clear a0 a1 a2 a3 f0 f1 f2 f3); obtain ⟨a0, a1, a2, a3, f0, f1, f2, f3⟩ := hRq.rk.cells; rw [HK.out] at a1) | (go_at_call 153; (with_reducible refine (L1.out _ hRq).mono ?_); rintro e wq ⟨rfl, hqq⟩; replace hRq := hRq.of_bl hqq.bl; replace hQ := hQ.trans hqq.bl; have hRTq : RT _ b s t x l := ⟨v, hRq, hT.of_bl hQ⟩; (try clear a0 a1 a2 a3 f0 f1 f2 f3); obtain ⟨a0, a1, a2, a3, f0, f1, f2, f3⟩ := hRq.rk.cells; rw [HK.out] at a1) | (go_at_call 153; (with_reducible refine (L2.out _ hRq).mono ?_); rintro e wq ⟨rfl, hqq⟩; replace hRq := hRq.of_bl hqq.bl; replace hQ := hQ.trans hqq.bl; have hRTq : RT _ b s t x l := ⟨v, hRq, hT.of_bl hQ⟩; (try clear a0 a1 a2 a3 f0 f1 f2 f3); obtain ⟨a0, a1, a2, a3, f0, f1, f2, f3⟩ := hRq.rk.cells; rw [HK.out] at a1)); go_end0; have hR2 : Rr _ b s t (x ++ [60]) v := ⟨hRq.rk.set2 (x ++ [60]), hRq.sf⟩; have hgw := gb_set (gb_set (gb_bl (b := some b) hQ) 2 (.string ⟨(x ++ [60]).toArray⟩)) 1 (.int .i64 ((K : Int) + 1)); exact ⟨below_gb hgw (Nat.le_refl _) (Nat.le_of_lt hbw), FrT.of_gb hgw, rfl, v, HSK.out _ hR2, hT.of_gb hgw (Nat.lt_succ_self _)⟩
theorem step_open (b : Nat) (s t x : List UInt8) (l : List Tok) (v : Value) (w : World) (hR : Rr w b s t x v) (hT : TkO w (b + 1) v l) (hs : s.length ≤ 1073741824) (hx : x.length ≤ 1073741824) (hl : l.length ≤ 1073741823) (hE : ES w) (hbE : 1 < b) (_hM : ML w) (_hbM : 0 < b) (c : UInt8) (r : List UInt8) (HT : Hid (t = c :: r))
 (h1 : pre [60] t = true) (h6 : hd ltr (List.drop 1 t) = true) :
 Calls Tryz.prog 122 #[.pointer (some ⟨b, 0, none⟩)] w fun e w' => StEnd w b s x l (opR r x l) e w' := by
 have hbw := hR.rk.lt; have BG := Lib.hid (fun p W h => begins_r p b s t x v W h (by omega)); have L1 := Lib.hid (fun W h => letter1 b s t x v W h (by omega)); have L2 := Lib.hid (fun W h => letter2 b s t x v W h (by omega)); have hRq := hR; have hQ := Bl.refl w; rw [List.drop_one] at h6 L1; have TG := Lib.hid (show ∀ W, RT W b s t x l → ES W → Calls Tryz.prog 154 #[.pointer (some ⟨b, 0, none⟩), .int .i64 2, .int .i64 1] W fun e w' => StEnd W b s x l (opR r x l) e w' from fun W h1 h2 => tag_open b s r x c l W (HT.out ▸ h1) hs hx hl h2 hbE); cases hO : opR r x l with
 | none =>
   rw [hO] at TG; clear hO; go_enter Tryz.func122, Tryz.ntmps122; go_wp2_with (first | (go_at_call 150; (with_reducible refine (BG.out _ _ hRq).mono ?_); rintro e wq ⟨rfl, hqq⟩; replace hRq := hRq.of_bl hqq.bl; replace hQ := hQ.trans hqq.bl; have hRTq : RT _ b s t x l := ⟨v, hRq, hT.of_bl hQ⟩) | (go_at_call 153; (with_reducible refine (L1.out _ hRq).mono ?_); rintro e wq ⟨rfl, hqq⟩; replace hRq := hRq.of_bl hqq.bl; replace hQ := hQ.trans hqq.bl; have hRTq : RT _ b s t x l := ⟨v, hRq, hT.of_bl hQ⟩) | (go_at_call 153; (with_reducible refine (L2.out _ hRq).mono ?_); rintro e wq ⟨rfl, hqq⟩; replace hRq := hRq.of_bl hqq.bl; replace hQ := hQ.trans hqq.bl; have hRTq : RT _ b s t x l := ⟨v, hRq, hT.of_bl hQ⟩) | (go_at_call 154; (with_reducible refine (TG.out _ hRTq (hE.of_bl hQ)).mono ?_); rintro e wz ⟨hBz, hFz, rfl, hz⟩)); exact ⟨rfl, (hQ.to_below b (Nat.le_of_lt hbw)).trans hBz, (FrT.of_gb (gb_bl hQ)).trans hFz, rfl, hz⟩
 | some q =>
   obtain ⟨u, x', l'⟩ := q; rw [hO] at TG; clear hO; go_enter Tryz.func122, Tryz.ntmps122; go_wp2_with (first | (go_at_call 150; (with_reducible refine (BG.out _ _ hRq).mono ?_); rintro e wq ⟨rfl, hqq⟩; replace hRq := hRq.of_bl hqq.bl; replace hQ := hQ.trans hqq.bl; have hRTq : RT _ b s t x l := ⟨v, hRq, hT.of_bl hQ⟩) | (go_at_call 153; (with_reducible refine (L1.out _ hRq).mono ?_); rintro e wq ⟨rfl, hqq⟩; replace hRq := hRq.of_bl hqq.bl; replace hQ := hQ.trans hqq.bl; have hRTq : RT _ b s t x l := ⟨v, hRq, hT.of_bl hQ⟩) | (go_at_call 153; (with_reducible refine (L2.out _ hRq).mono ?_); rintro e wq ⟨rfl, hqq⟩; replace hRq := hRq.of_bl hqq.bl; replace hQ := hQ.trans hqq.bl; have hRTq : RT _ b s t x l := ⟨v, hRq, hT.of_bl hQ⟩) | (go_at_call 154; (with_reducible refine (TG.out _ hRTq (hE.of_bl hQ)).mono ?_); rintro e wz ⟨hBz, hFz, rfl, hz⟩)); go_end0; exact ⟨(hQ.to_below b (Nat.le_of_lt hbw)).trans hBz, (FrT.of_gb (gb_bl hQ)).trans hFz, rfl, hz⟩
theorem step_close (b : Nat) (s t x : List UInt8) (l : List Tok) (v : Value) (w : World) (hR : Rr w b s t x v) (hT : TkO w (b + 1) v l) (hs : s.length ≤ 1073741824) (hx : x.length ≤ 1073741824) (hl : l.length ≤ 1073741823) (hE : ES w) (hbE : 1 < b) (hM : ML w) (hbM : 0 < b) (c d : UInt8) (r : List UInt8) (HT : Hid (t = c :: d :: r))
 (h1 : pre [60] t = true) (h2 : pre [60, 47] t = true) (h6 : hd ltr (List.drop 1 t) = false) (h7 : hd ltr (List.drop 2 t) = true) :
 Calls Tryz.prog 122 #[.pointer (some ⟨b, 0, none⟩)] w fun e w' => StEnd w b s x l (clR r x l) e w' := by
 have hbw := hR.rk.lt; have BG := Lib.hid (fun p W h => begins_r p b s t x v W h (by omega)); have L1 := Lib.hid (fun W h => letter1 b s t x v W h (by omega)); have L2 := Lib.hid (fun W h => letter2 b s t x v W h (by omega)); have hRq := hR; have hQ := Bl.refl w; rw [List.drop_one] at h6 L1; have TG := Lib.hid (show ∀ W, RT W b s t x l → ES W → ML W → Calls Tryz.prog 154 #[.pointer (some ⟨b, 0, none⟩), .int .i64 3, .int .i64 2] W fun e w' => StEnd W b s x l (clR r x l) e w' from fun W h1 h2 h3 => tag_close b s r x c d l W (HT.out ▸ h1) hs hx hl h2 hbE h3 hbM); cases hO : clR r x l with
 | none =>
   rw [hO] at TG; clear hO; go_enter Tryz.func122, Tryz.ntmps122; go_wp2_with (first | (go_at_call 150; (with_reducible refine (BG.out _ _ hRq).mono ?_); rintro e wq ⟨rfl, hqq⟩; replace hRq := hRq.of_bl hqq.bl; replace hQ := hQ.trans hqq.bl; have hRTq : RT _ b s t x l := ⟨v, hRq, hT.of_bl hQ⟩) | (go_at_call 153; (with_reducible refine (L1.out _ hRq).mono ?_); rintro e wq ⟨rfl, hqq⟩; replace hRq := hRq.of_bl hqq.bl; replace hQ := hQ.trans hqq.bl; have hRTq : RT _ b s t x l := ⟨v, hRq, hT.of_bl hQ⟩) | (go_at_call 153; (with_reducible refine (L2.out _ hRq).mono ?_); rintro e wq ⟨rfl, hqq⟩; replace hRq := hRq.of_bl hqq.bl; replace hQ := hQ.trans hqq.bl; have hRTq : RT _ b s t x l := ⟨v, hRq, hT.of_bl hQ⟩) | (go_at_call 154; (with_reducible refine (TG.out _ hRTq (hE.of_bl hQ) (hM.of_bl hQ)).mono ?_); rintro e wz ⟨hBz, hFz, rfl, hz⟩)); exact ⟨rfl, (hQ.to_below b (Nat.le_of_lt hbw)).trans hBz, (FrT.of_gb (gb_bl hQ)).trans hFz, rfl, hz⟩
 | some q =>
   obtain ⟨u, x', l'⟩ := q; rw [hO] at TG; clear hO; go_enter Tryz.func122, Tryz.ntmps122; go_wp2_with (first | (go_at_call 150; (with_reducible refine (BG.out _ _ hRq).mono ?_); rintro e wq ⟨rfl, hqq⟩; replace hRq := hRq.of_bl hqq.bl; replace hQ := hQ.trans hqq.bl; have hRTq : RT _ b s t x l := ⟨v, hRq, hT.of_bl hQ⟩) | (go_at_call 153; (with_reducible refine (L1.out _ hRq).mono ?_); rintro e wq ⟨rfl, hqq⟩; replace hRq := hRq.of_bl hqq.bl; replace hQ := hQ.trans hqq.bl; have hRTq : RT _ b s t x l := ⟨v, hRq, hT.of_bl hQ⟩) | (go_at_call 153; (with_reducible refine (L2.out _ hRq).mono ?_); rintro e wq ⟨rfl, hqq⟩; replace hRq := hRq.of_bl hqq.bl; replace hQ := hQ.trans hqq.bl; have hRTq : RT _ b s t x l := ⟨v, hRq, hT.of_bl hQ⟩) | (go_at_call 154; (with_reducible refine (TG.out _ hRTq (hE.of_bl hQ) (hM.of_bl hQ)).mono ?_); rintro e wz ⟨hBz, hFz, rfl, hz⟩)); go_end0; exact ⟨(hQ.to_below b (Nat.le_of_lt hbw)).trans hBz, (FrT.of_gb (gb_bl hQ)).trans hFz, rfl, hz⟩
theorem step_com (b : Nat) (s t x : List UInt8) (l : List Tok) (v : Value) (w : World) (hR : Rr w b s t x v) (hT : TkO w (b + 1) v l) (hs : s.length ≤ 1073741824) (_hx : x.length ≤ 1073741824) (_hl : l.length ≤ 1073741823) (_hE : ES w) (_hbE : 1 < b) (hM : ML w) (_hbM : 0 < b)
 (h1 : pre [60] t = true) (h2 : pre [60, 47] t = false) (h3 : pre [60, 33, 45, 45] t = true) (h6 : hd ltr (List.drop 1 t) = false) :
 Calls Tryz.prog 122 #[.pointer (some ⟨b, 0, none⟩)] w fun e w' => StEnd w b s x l ((cutS [45, 45, 62] (t.drop 2)).map fun u => (u, x, l)) e w' := by
 have hbw := hR.rk.lt; have BG := Lib.hid (fun p W h => begins_r p b s t x v W h (by omega)); have L1 := Lib.hid (fun W h => letter1 b s t x v W h (by omega)); have L2 := Lib.hid (fun W h => letter2 b s t x v W h (by omega)); have hRq := hR; have hQ := Bl.refl w; rw [List.drop_one] at h6 L1; cases hO : cutS [45, 45, 62] (t.drop 2) with
 | none =>
   have TC := Lib.hid (show ∀ W, Rr W b s t x v → ML W → Calls Tryz.prog 155 #[.pointer (some ⟨b, 0, none⟩), .string ⟨#[45, 45, 62]⟩, .int .i64 2] W fun e w' => e = .panicked OPN ∧ Qt W w' from fun W h1 h2 => to_no [45, 45, 62] (by simp) (by simp) 2 (by omega) b s t x v W h1 (by omega) h2 hO); clear hO; go_enter Tryz.func122, Tryz.ntmps122; go_wp2_with (first | (go_at_call 150; (with_reducible refine (BG.out _ _ hRq).mono ?_); rintro e wq ⟨rfl, hqq⟩; replace hRq := hRq.of_bl hqq.bl; replace hQ := hQ.trans hqq.bl; have hRTq : RT _ b s t x l := ⟨v, hRq, hT.of_bl hQ⟩) | (go_at_call 153; (with_reducible refine (L1.out _ hRq).mono ?_); rintro e wq ⟨rfl, hqq⟩; replace hRq := hRq.of_bl hqq.bl; replace hQ := hQ.trans hqq.bl; have hRTq : RT _ b s t x l := ⟨v, hRq, hT.of_bl hQ⟩) | (go_at_call 153; (with_reducible refine (L2.out _ hRq).mono ?_); rintro e wq ⟨rfl, hqq⟩; replace hRq := hRq.of_bl hqq.bl; replace hQ := hQ.trans hqq.bl; have hRTq : RT _ b s t x l := ⟨v, hRq, hT.of_bl hQ⟩) | (go_at_call 155; (with_reducible refine (TC.out _ hRq (hM.of_bl hQ)).mono ?_); rintro e wz ⟨rfl, hqz⟩)); have hgw := gb_bl (b := some b) (hQ.trans hqz.bl); exact ⟨rfl, below_gb hgw (Nat.le_refl _) (Nat.le_of_lt hbw), FrT.of_gb hgw, rfl, t, v, hRq.of_bl hqz.bl, hT.of_gb hgw (Nat.lt_succ_self _)⟩
 | some u =>
   have TC := Lib.hid (show ∀ W, Rr W b s t x v → ML W → Calls Tryz.prog 155 #[.pointer (some ⟨b, 0, none⟩), .string ⟨#[45, 45, 62]⟩, .int .i64 2] W fun e w' => e = .returned (.tuple #[]) ∧ Rr w' b s u x v ∧ W.grownBy w' (some b) from fun W h1 h2 => to_yes [45, 45, 62] (by simp) (by simp) 2 (by omega) b s t x u v W h1 (by omega) h2 hO); clear hO; go_enter Tryz.func122, Tryz.ntmps122; go_wp2_with (first | (go_at_call 150; (with_reducible refine (BG.out _ _ hRq).mono ?_); rintro e wq ⟨rfl, hqq⟩; replace hRq := hRq.of_bl hqq.bl; replace hQ := hQ.trans hqq.bl; have hRTq : RT _ b s t x l := ⟨v, hRq, hT.of_bl hQ⟩) | (go_at_call 153; (with_reducible refine (L1.out _ hRq).mono ?_); rintro e wq ⟨rfl, hqq⟩; replace hRq := hRq.of_bl hqq.bl; replace hQ := hQ.trans hqq.bl; have hRTq : RT _ b s t x l := ⟨v, hRq, hT.of_bl hQ⟩) | (go_at_call 153; (with_reducible refine (L2.out _ hRq).mono ?_); rintro e wq ⟨rfl, hqq⟩; replace hRq := hRq.of_bl hqq.bl; replace hQ := hQ.trans hqq.bl; have hRTq : RT _ b s t x l := ⟨v, hRq, hT.of_bl hQ⟩) | (go_at_call 155; (with_reducible refine (TC.out _ hRq (hM.of_bl hQ)).mono ?_); rintro e wz ⟨rfl, hRz, hgz⟩)); go_end0; have hgw := gb_trans (gb_bl (b := some b) hQ) hgz; exact ⟨below_gb hgw (Nat.le_refl _) (Nat.le_of_lt hbw), FrT.of_gb hgw, rfl, v, hRz, hT.of_gb hgw (Nat.lt_succ_self _)⟩
theorem step_s33 (b : Nat) (s t x : List UInt8) (l : List Tok) (v : Value) (w : World) (hR : Rr w b s t x v) (hT : TkO w (b + 1) v l) (hs : s.length ≤ 1073741824) (_hx : x.length ≤ 1073741824) (_hl : l.length ≤ 1073741823) (_hE : ES w) (_hbE : 1 < b) (hM : ML w) (_hbM : 0 < b)
 (h1 : pre [60] t = true) (h2 : pre [60, 47] t = false) (h3 : pre [60, 33, 45, 45] t = false) (h4 : pre [60, 33] t = true) (h6 : hd ltr (List.drop 1 t) = false) :
 Calls Tryz.prog 122 #[.pointer (some ⟨b, 0, none⟩)] w fun e w' => StEnd w b s x l ((cutS [62] (t.drop 0)).map fun u => (u, x, l)) e w' := by
 have hbw := hR.rk.lt; have BG := Lib.hid (fun p W h => begins_r p b s t x v W h (by omega)); have L1 := Lib.hid (fun W h => letter1 b s t x v W h (by omega)); have L2 := Lib.hid (fun W h => letter2 b s t x v W h (by omega)); have hRq := hR; have hQ := Bl.refl w; rw [List.drop_one] at h6 L1; cases hO : cutS [62] (t.drop 0) with
 | none =>
   have TC := Lib.hid (show ∀ W, Rr W b s t x v → ML W → Calls Tryz.prog 155 #[.pointer (some ⟨b, 0, none⟩), .string ⟨#[62]⟩, .int .i64 0] W fun e w' => e = .panicked OPN ∧ Qt W w' from fun W h1 h2 => to_no [62] (by simp) (by simp) 0 (by omega) b s t x v W h1 (by omega) h2 hO); clear hO; go_enter Tryz.func122, Tryz.ntmps122; go_wp2_with (first | (go_at_call 150; (with_reducible refine (BG.out _ _ hRq).mono ?_); rintro e wq ⟨rfl, hqq⟩; replace hRq := hRq.of_bl hqq.bl; replace hQ := hQ.trans hqq.bl; have hRTq : RT _ b s t x l := ⟨v, hRq, hT.of_bl hQ⟩) | (go_at_call 153; (with_reducible refine (L1.out _ hRq).mono ?_); rintro e wq ⟨rfl, hqq⟩; replace hRq := hRq.of_bl hqq.bl; replace hQ := hQ.trans hqq.bl; have hRTq : RT _ b s t x l := ⟨v, hRq, hT.of_bl hQ⟩) | (go_at_call 153; (with_reducible refine (L2.out _ hRq).mono ?_); rintro e wq ⟨rfl, hqq⟩; replace hRq := hRq.of_bl hqq.bl; replace hQ := hQ.trans hqq.bl; have hRTq : RT _ b s t x l := ⟨v, hRq, hT.of_bl hQ⟩) | (go_at_call 155; (with_reducible refine (TC.out _ hRq (hM.of_bl hQ)).mono ?_); rintro e wz ⟨rfl, hqz⟩)); have hgw := gb_bl (b := some b) (hQ.trans hqz.bl); exact ⟨rfl, below_gb hgw (Nat.le_refl _) (Nat.le_of_lt hbw), FrT.of_gb hgw, rfl, t, v, hRq.of_bl hqz.bl, hT.of_gb hgw (Nat.lt_succ_self _)⟩
 | some u =>
   have TC := Lib.hid (show ∀ W, Rr W b s t x v → ML W → Calls Tryz.prog 155 #[.pointer (some ⟨b, 0, none⟩), .string ⟨#[62]⟩, .int .i64 0] W fun e w' => e = .returned (.tuple #[]) ∧ Rr w' b s u x v ∧ W.grownBy w' (some b) from fun W h1 h2 => to_yes [62] (by simp) (by simp) 0 (by omega) b s t x u v W h1 (by omega) h2 hO); clear hO; go_enter Tryz.func122, Tryz.ntmps122; go_wp2_with (first | (go_at_call 150; (with_reducible refine (BG.out _ _ hRq).mono ?_); rintro e wq ⟨rfl, hqq⟩; replace hRq := hRq.of_bl hqq.bl; replace hQ := hQ.trans hqq.bl; have hRTq : RT _ b s t x l := ⟨v, hRq, hT.of_bl hQ⟩) | (go_at_call 153; (with_reducible refine (L1.out _ hRq).mono ?_); rintro e wq ⟨rfl, hqq⟩; replace hRq := hRq.of_bl hqq.bl; replace hQ := hQ.trans hqq.bl; have hRTq : RT _ b s t x l := ⟨v, hRq, hT.of_bl hQ⟩) | (go_at_call 153; (with_reducible refine (L2.out _ hRq).mono ?_); rintro e wq ⟨rfl, hqq⟩; replace hRq := hRq.of_bl hqq.bl; replace hQ := hQ.trans hqq.bl; have hRTq : RT _ b s t x l := ⟨v, hRq, hT.of_bl hQ⟩) | (go_at_call 155; (with_reducible refine (TC.out _ hRq (hM.of_bl hQ)).mono ?_); rintro e wz ⟨rfl, hRz, hgz⟩)); go_end0; have hgw := gb_trans (gb_bl (b := some b) hQ) hgz; exact ⟨below_gb hgw (Nat.le_refl _) (Nat.le_of_lt hbw), FrT.of_gb hgw, rfl, v, hRz, hT.of_gb hgw (Nat.lt_succ_self _)⟩
theorem step_s63 (b : Nat) (s t x : List UInt8) (l : List Tok) (v : Value) (w : World) (hR : Rr w b s t x v) (hT : TkO w (b + 1) v l) (hs : s.length ≤ 1073741824) (_hx : x.length ≤ 1073741824) (_hl : l.length ≤ 1073741823) (_hE : ES w) (_hbE : 1 < b) (hM : ML w) (_hbM : 0 < b)
 (h1 : pre [60] t = true) (h2 : pre [60, 47] t = false) (h3 : pre [60, 33, 45, 45] t = false) (h4 : pre [60, 33] t = false) (h5 : pre [60, 63] t = true) (h6 : hd ltr (List.drop 1 t) = false) :
 Calls Tryz.prog 122 #[.pointer (some ⟨b, 0, none⟩)] w fun e w' => StEnd w b s x l ((cutS [62] (t.drop 0)).map fun u => (u, x, l)) e w' := by
 have hbw := hR.rk.lt; have BG := Lib.hid (fun p W h => begins_r p b s t x v W h (by omega)); have L1 := Lib.hid (fun W h => letter1 b s t x v W h (by omega)); have L2 := Lib.hid (fun W h => letter2 b s t x v W h (by omega)); have hRq := hR; have hQ := Bl.refl w; rw [List.drop_one] at h6 L1; cases hO : cutS [62] (t.drop 0) with
 | none =>
   have TC := Lib.hid (show ∀ W, Rr W b s t x v → ML W → Calls Tryz.prog 155 #[.pointer (some ⟨b, 0, none⟩), .string ⟨#[62]⟩, .int .i64 0] W fun e w' => e = .panicked OPN ∧ Qt W w' from fun W h1 h2 => to_no [62] (by simp) (by simp) 0 (by omega) b s t x v W h1 (by omega) h2 hO); clear hO; go_enter Tryz.func122, Tryz.ntmps122; go_wp2_with (first | (go_at_call 150; (with_reducible refine (BG.out _ _ hRq).mono ?_); rintro e wq ⟨rfl, hqq⟩; replace hRq := hRq.of_bl hqq.bl; replace hQ := hQ.trans hqq.bl; have hRTq : RT _ b s t x l := ⟨v, hRq, hT.of_bl hQ⟩) | (go_at_call 153; (with_reducible refine (L1.out _ hRq).mono ?_); rintro e wq ⟨rfl, hqq⟩; replace hRq := hRq.of_bl hqq.bl; replace hQ := hQ.trans hqq.bl; have hRTq : RT _ b s t x l := ⟨v, hRq, hT.of_bl hQ⟩) | (go_at_call 153; (with_reducible refine (L2.out _ hRq).mono ?_); rintro e wq ⟨rfl, hqq⟩; replace hRq := hRq.of_bl hqq.bl; replace hQ := hQ.trans hqq.bl; have hRTq : RT _ b s t x l := ⟨v, hRq, hT.of_bl hQ⟩) | (go_at_call 155; (with_reducible refine (TC.out _ hRq (hM.of_bl hQ)).mono ?_); rintro e wz ⟨rfl, hqz⟩)); have hgw := gb_bl (b := some b) (hQ.trans hqz.bl); exact ⟨rfl, below_gb hgw (Nat.le_refl _) (Nat.le_of_lt hbw), FrT.of_gb hgw, rfl, t, v, hRq.of_bl hqz.bl, hT.of_gb hgw (Nat.lt_succ_self _)⟩
 | some u =>
   have TC := Lib.hid (show ∀ W, Rr W b s t x v → ML W → Calls Tryz.prog 155 #[.pointer (some ⟨b, 0, none⟩), .string ⟨#[62]⟩, .int .i64 0] W fun e w' => e = .returned (.tuple #[]) ∧ Rr w' b s u x v ∧ W.grownBy w' (some b) from fun W h1 h2 => to_yes [62] (by simp) (by simp) 0 (by omega) b s t x u v W h1 (by omega) h2 hO); clear hO; go_enter Tryz.func122, Tryz.ntmps122; go_wp2_with (first | (go_at_call 150; (with_reducible refine (BG.out _ _ hRq).mono ?_); rintro e wq ⟨rfl, hqq⟩; replace hRq := hRq.of_bl hqq.bl; replace hQ := hQ.trans hqq.bl; have hRTq : RT _ b s t x l := ⟨v, hRq, hT.of_bl hQ⟩) | (go_at_call 153; (with_reducible refine (L1.out _ hRq).mono ?_); rintro e wq ⟨rfl, hqq⟩; replace hRq := hRq.of_bl hqq.bl; replace hQ := hQ.trans hqq.bl; have hRTq : RT _ b s t x l := ⟨v, hRq, hT.of_bl hQ⟩) | (go_at_call 153; (with_reducible refine (L2.out _ hRq).mono ?_); rintro e wq ⟨rfl, hqq⟩; replace hRq := hRq.of_bl hqq.bl; replace hQ := hQ.trans hqq.bl; have hRTq : RT _ b s t x l := ⟨v, hRq, hT.of_bl hQ⟩) | (go_at_call 155; (with_reducible refine (TC.out _ hRq (hM.of_bl hQ)).mono ?_); rintro e wz ⟨rfl, hRz, hgz⟩)); go_end0; have hgw := gb_trans (gb_bl (b := some b) hQ) hgz; exact ⟨below_gb hgw (Nat.le_refl _) (Nat.le_of_lt hbw), FrT.of_gb hgw, rfl, v, hRz, hT.of_gb hgw (Nat.lt_succ_self _)⟩
theorem step_s47 (b : Nat) (s t x : List UInt8) (l : List Tok) (v : Value) (w : World) (hR : Rr w b s t x v) (hT : TkO w (b + 1) v l) (hs : s.length ≤ 1073741824) (_hx : x.length ≤ 1073741824) (_hl : l.length ≤ 1073741823) (_hE : ES w) (_hbE : 1 < b) (hM : ML w) (_hbM : 0 < b)
 (h1 : pre [60] t = true) (h2 : pre [60, 47] t = true) (h3 : pre [60, 33, 45, 45] t = false) (h4 : pre [60, 33] t = false) (h5 : pre [60, 63] t = false) (h6 : hd ltr (List.drop 1 t) = false) (h7 : hd ltr (List.drop 2 t) = false) :
 Calls Tryz.prog 122 #[.pointer (some ⟨b, 0, none⟩)] w fun e w' => StEnd w b s x l ((cutS [62] (t.drop 0)).map fun u => (u, x, l)) e w' := by
 have hbw := hR.rk.lt; have BG := Lib.hid (fun p W h => begins_r p b s t x v W h (by omega)); have L1 := Lib.hid (fun W h => letter1 b s t x v W h (by omega)); have L2 := Lib.hid (fun W h => letter2 b s t x v W h (by omega)); have hRq := hR; have hQ := Bl.refl w; rw [List.drop_one] at h6 L1; cases hO : cutS [62] (t.drop 0) with
 | none =>
   have TC := Lib.hid (show ∀ W, Rr W b s t x v → ML W → Calls Tryz.prog 155 #[.pointer (some ⟨b, 0, none⟩), .string ⟨#[62]⟩, .int .i64 0] W fun e w' => e = .panicked OPN ∧ Qt W w' from fun W h1 h2 => to_no [62] (by simp) (by simp) 0 (by omega) b s t x v W h1 (by omega) h2 hO); clear hO; go_enter Tryz.func122, Tryz.ntmps122; go_wp2_with (first | (go_at_call 150; (with_reducible refine (BG.out _ _ hRq).mono ?_); rintro e wq ⟨rfl, hqq⟩; replace hRq := hRq.of_bl hqq.bl; replace hQ := hQ.trans hqq.bl; have hRTq : RT _ b s t x l := ⟨v, hRq, hT.of_bl hQ⟩) | (go_at_call 153; (with_reducible refine (L1.out _ hRq).mono ?_); rintro e wq ⟨rfl, hqq⟩; replace hRq := hRq.of_bl hqq.bl; replace hQ := hQ.trans hqq.bl; have hRTq : RT _ b s t x l := ⟨v, hRq, hT.of_bl hQ⟩) | (go_at_call 153; (with_reducible refine (L2.out _ hRq).mono ?_); rintro e wq ⟨rfl, hqq⟩; replace hRq := hRq.of_bl hqq.bl; replace hQ := hQ.trans hqq.bl; have hRTq : RT _ b s t x l := ⟨v, hRq, hT.of_bl hQ⟩) | (go_at_call 155; (with_reducible refine (TC.out _ hRq (hM.of_bl hQ)).mono ?_); rintro e wz ⟨rfl, hqz⟩)); have hgw := gb_bl (b := some b) (hQ.trans hqz.bl); exact ⟨rfl, below_gb hgw (Nat.le_refl _) (Nat.le_of_lt hbw), FrT.of_gb hgw, rfl, t, v, hRq.of_bl hqz.bl, hT.of_gb hgw (Nat.lt_succ_self _)⟩
 | some u =>
   have TC := Lib.hid (show ∀ W, Rr W b s t x v → ML W → Calls Tryz.prog 155 #[.pointer (some ⟨b, 0, none⟩), .string ⟨#[62]⟩, .int .i64 0] W fun e w' => e = .returned (.tuple #[]) ∧ Rr w' b s u x v ∧ W.grownBy w' (some b) from fun W h1 h2 => to_yes [62] (by simp) (by simp) 0 (by omega) b s t x u v W h1 (by omega) h2 hO); clear hO; go_enter Tryz.func122, Tryz.ntmps122; go_wp2_with (first | (go_at_call 150; (with_reducible refine (BG.out _ _ hRq).mono ?_); rintro e wq ⟨rfl, hqq⟩; replace hRq := hRq.of_bl hqq.bl; replace hQ := hQ.trans hqq.bl; have hRTq : RT _ b s t x l := ⟨v, hRq, hT.of_bl hQ⟩) | (go_at_call 153; (with_reducible refine (L1.out _ hRq).mono ?_); rintro e wq ⟨rfl, hqq⟩; replace hRq := hRq.of_bl hqq.bl; replace hQ := hQ.trans hqq.bl; have hRTq : RT _ b s t x l := ⟨v, hRq, hT.of_bl hQ⟩) | (go_at_call 153; (with_reducible refine (L2.out _ hRq).mono ?_); rintro e wq ⟨rfl, hqq⟩; replace hRq := hRq.of_bl hqq.bl; replace hQ := hQ.trans hqq.bl; have hRTq : RT _ b s t x l := ⟨v, hRq, hT.of_bl hQ⟩) | (go_at_call 155; (with_reducible refine (TC.out _ hRq (hM.of_bl hQ)).mono ?_); rintro e wz ⟨rfl, hRz, hgz⟩)); go_end0; have hgw := gb_trans (gb_bl (b := some b) hQ) hgz; exact ⟨below_gb hgw (Nat.le_refl _) (Nat.le_of_lt hbw), FrT.of_gb hgw, rfl, v, hRz, hT.of_gb hgw (Nat.lt_succ_self _)⟩
theorem hd_head (r : List UInt8) : hd ltr r = (r.head?.map ltr).getD false := by cases r <;> rfl
theorem cutS_skip (p c : UInt8) (r : List UInt8) (h : p ≠ c) : cutS [p] (c :: r) = cutS [p] r := by
 conv => lhs; unfold cutS
 rw [if_neg]; simp only [pre, List.isPrefixOf, Bool.and_true, beq_iff_eq]; exact h
theorem step_c (b : Nat) (s t x : List UInt8) (l : List Tok) (v : Value) (w : World) (hR : Rr w b s t x v) (hT : TkO w (b + 1) v l) (ht : t ≠ []) (hs : s.length ≤ 1073741824) (hx : x.length ≤ 1073741824) (hl : l.length ≤ 1073741823) (hE : ES w) (hbE : 1 < b) (hM : ML w) (hbM : 0 < b) :
 Calls Tryz.prog 122 #[.pointer (some ⟨b, 0, none⟩)] w fun e w' => StEnd w b s x l (stP t x l) e w' := by
 cases t with
 | nil => exact absurd rfl ht
 | cons c r =>
   by_cases hc : c = 60
   · subst hc; have e0 : stP (60 :: r) x l = (match tagP r with | none => some (r, x ++ [60], l) | some none => none | some (some (none, u)) => some (u, x, l) | some (some (some k, u)) => if isNm k.2.1 then some (u, [], flsh x l ++ [k]) else some (u, x, l)) := by
      unfold stP; simp only [if_true]; first | done | (rcases tagP r with _ | _ | ⟨_ | k, u⟩ <;> rfl)
     have h1 : pre [60] (60 :: r) = true := by rw [pre_one]; first | done | rfl
     cases r with
     | nil =>
       rw [e0]; exact step_lone b s [60] x l v w hR hT hs hx hl hE hbE hM hbM 60 [] (Lib.hid rfl) h1 rfl rfl rfl rfl rfl
     | cons d r =>
       by_cases hd' : ltr d = true
       · have e1 : stP (60 :: d :: r) x l = opR (d :: r) x l := by
          rw [e0, tagP_cons, if_pos hd']; unfold opR; cases atP ((d :: r).dropWhile tch) [] with
          | none => rfl
          | some y => simp only [Option.map_some]; split <;> rfl
         rw [e1]; exact step_open b s _ x l v w hR hT hs hx hl hE hbE hM hbM 60 (d :: r) (Lib.hid rfl) h1 hd'
       have h6 : hd ltr (List.drop 1 (60 :: d :: r)) = false := by simpa [hd] using hd'
       by_cases h47 : d = 47
       · subst h47; have h2 : pre [60, 47] (60 :: 47 :: r) = true := by rw [pre_one, pre_one]; rfl
         have h3 : pre [60, 33, 45, 45] (60 :: 47 :: r) = false := by rw [pre_one]; exact pre_ne _ _ (by decide)
         have h4 : pre [60, 33] (60 :: 47 :: r) = false := by rw [pre_one]; exact pre_ne _ _ (by decide)
         have h5 : pre [60, 63] (60 :: 47 :: r) = false := by rw [pre_one]; exact pre_ne _ _ (by decide)
         by_cases h7 : hd ltr r = true
         · cases r with
           | nil => exact absurd h7 (by decide)
           | cons f r =>
             have e1 : stP (60 :: 47 :: f :: r) x l = clR (f :: r) x l := by
              rw [e0, tagP_cons, if_neg hd', if_pos ⟨rfl, by rw [← hd_head]; exact h7⟩]; unfold clR; cases cutS [62] ((f :: r).dropWhile tch) with
              | none => rfl
              | some y => simp only [Option.map_some]; split <;> rfl
             rw [e1]; exact step_close b s _ x l v w hR hT hs hx hl hE hbE hM hbM 60 47 (f :: r) (Lib.hid rfl) h1 h2 h6 h7
         · have e1 : stP (60 :: 47 :: r) x l = (cutS [62] ((60 :: 47 :: r).drop 0)).map fun u => (u, x, l) := by
            rw [e0, tagP_cons, if_neg hd', if_neg (by rintro ⟨_, h⟩; rw [← hd_head] at h; exact h7 h), if_neg (by rw [pre_ne _ _ (by decide)]; decide), if_pos (Or.inr (Or.inr rfl)), List.drop_zero, cutS_skip 62 60 _ (by decide)]; cases cutS [62] (47 :: r) <;> rfl
           rw [e1]; exact step_s47 b s _ x l v w hR hT hs hx hl hE hbE hM hbM h1 h2 h3 h4 h5 h6 (by simpa using h7)
       have h2 : pre [60, 47] (60 :: d :: r) = false := by rw [pre_one]; exact pre_ne _ _ h47
       have hn47 : ¬ (d = 47 ∧ (r.head?.map ltr).getD false = true) := fun h => h47 h.1
       by_cases h33 : d = 33
       · subst h33; have h4 : pre [60, 33] (60 :: 33 :: r) = true := by rw [pre_one, pre_one]; rfl
         by_cases h3 : pre [33, 45, 45] (33 :: r) = true
         · have e1 : stP (60 :: 33 :: r) x l = (cutS [45, 45, 62] ((60 :: 33 :: r).drop 2)).map fun u => (u, x, l) := by
            rw [e0, tagP_cons, if_neg hd', if_neg hn47, if_pos h3]; simp only [List.drop_succ_cons, List.drop_zero]; cases cutS [45, 45, 62] r <;> rfl
           rw [e1]; exact step_com b s _ x l v w hR hT hs hx hl hE hbE hM hbM h1 h2 (by rw [pre_one]; exact h3) h6
         · have e1 : stP (60 :: 33 :: r) x l = (cutS [62] ((60 :: 33 :: r).drop 0)).map fun u => (u, x, l) := by
            rw [e0, tagP_cons, if_neg hd', if_neg hn47, if_neg h3, if_pos (Or.inl rfl), List.drop_zero, cutS_skip 62 60 _ (by decide)]; cases cutS [62] (33 :: r) <;> rfl
           rw [e1]; exact step_s33 b s _ x l v w hR hT hs hx hl hE hbE hM hbM h1 h2 (by rw [pre_one]; simpa using h3) h4 h6
       have h3 : pre [60, 33, 45, 45] (60 :: d :: r) = false := by rw [pre_one]; exact pre_ne _ _ h33
       have h4 : pre [60, 33] (60 :: d :: r) = false := by rw [pre_one]; exact pre_ne _ _ h33
       have h3' : ¬ pre [33, 45, 45] (d :: r) = true := by rw [pre_ne _ _ h33]; decide
       by_cases h63 : d = 63
       · subst h63; have e1 : stP (60 :: 63 :: r) x l = (cutS [62] ((60 :: 63 :: r).drop 0)).map fun u => (u, x, l) := by
          rw [e0, tagP_cons, if_neg hd', if_neg hn47, if_neg h3', if_pos (Or.inr (Or.inl rfl)), List.drop_zero, cutS_skip 62 60 _ (by decide)]; cases cutS [62] (63 :: r) <;> rfl
         rw [e1]; exact step_s63 b s _ x l v w hR hT hs hx hl hE hbE hM hbM h1 h2 h3 h4 (by rw [pre_one, pre_one]; rfl) h6
       · have h5 : pre [60, 63] (60 :: d :: r) = false := by rw [pre_one]; exact pre_ne _ _ h63
         have e1 : stP (60 :: d :: r) x l = some (d :: r, x ++ [60], l) := by
          rw [e0, tagP_cons, if_neg hd', if_neg hn47, if_neg h3', if_neg (fun h => h.elim h33 (fun h => h.elim h63 h47))]
         rw [e1]; exact step_lone b s _ x l v w hR hT hs hx hl hE hbE hM hbM 60 (d :: r) (Lib.hid rfl) h1 h2 h3 h4 h5 h6
   · have e1 : stP (c :: r) x l = some ((c :: r).dropWhile not60, x ++ (c :: r).takeWhile not60, l) := by unfold stP; simp only [if_neg hc]
     rw [e1]; exact step_text b s _ x l v w hR hT hs hx (pre_ne _ _ hc)
def Ok (w : World) (k : Nat) (v : Bool) : Prop := w.heap[k]? = some (.cells #[.bool v] 4 (0, 0))
theorem Ok.cells {w : World} {k : Nat} {v : Bool} (h : Ok w k v) : w.cell? ⟨k, 0, none⟩ = some (.bool v) ∧ w.frozen? ⟨k, 0, none⟩ = false := by
 unfold Ok at h; simp [World.cell?, World.frozen?, h]
theorem try1_idle (p : Addr) (w : World) :
 CallsD Tryz.prog 121 #[.pointer (some p)] .returning w fun e u' w' => e = .returned (.tuple #[]) ∧ u' = .returning ∧ w' = w := by
 refine callsD_of_wpS Tryz.func121 rfl fun c₀ cs hu => ?_
 apply wpS_seq; apply wpS_region; simp [wpOpsS, go_sem, recoverD, hu, Tryz.ntmps121, Exit.thenS]; apply wpS_seq; apply wpS_region; simp [wpOpsS, go_sem, Exit.thenS]; refine wpS_cond (t := false) (by simp [Act.eval, Array.replicate]) ?_; simp only [Bool.false_eq_true, if_false]; refine wpS_of_wp (wp_skip ?_); cases c₀; simp_all [bodyPostS, results, Tryz.results121]
theorem asserted (w : World) : (Instr.typeAssert (.iface 140 (.agg #[])) 20 140 true).run Tryz.prog w = .ok (.tuple #[.agg #[], .bool true]) w := by
 have hu : Tryz.prog.underlying 140 = some (.struct #[]) := by kernel_rfl
 simp [Instr.typeAssert, run_underlying hu]
theorem try1_caught (k : Nat) (v : Bool) (w : World) (hk : Ok w k v) :
 CallsD Tryz.prog 121 #[.pointer (some ⟨k, 0, none⟩)] (.panicking OPN) w fun e u' w' =>
  e = .returned (.tuple #[]) ∧ u' = .panicking [{ v := .iface 140 (.agg #[]), recovered := true }] ∧ ∃ o, w' = (w.setCell ⟨k, 0, none⟩ (.bool false)).alloc o := by
 obtain ⟨hc, hz⟩ := hk.cells; refine callsD_of_wpS Tryz.func121 rfl fun c₀ cs hu => ?_
 apply wpS_seq; apply wpS_region; simp [wpOpsS, go_sem, recoverD, hu, Tryz.ntmps121, Exit.thenS, OPN]; apply wpS_seq; apply wpS_region; simp [wpOpsS, go_sem, Exit.thenS]; refine wpS_cond (t := true) (by simp [Act.eval, Array.replicate]) ?_; simp only [if_true]; have hta := asserted; apply wpS_seq; apply wpS_seq; apply wpS_region; simp [wpOpsS, go_sem, Exit.thenS, hta]; apply wpS_seq; apply wpS_region; simp [wpOpsS, go_sem, Exit.thenS]; refine wpS_cond (t := false) (by simp [Act.eval, Array.replicate]) ?_; simp only [Bool.false_eq_true, if_false]; refine wpS_of_wp (wp_skip ?_); have hlt : k < w.heap.size := (Array.getElem?_eq_some_iff.1 hk).1; simp only [Exit.thenS]; apply wpS_region; simp [wpOpsS, go_sem, hc, hz, hlt]; cases c₀; simp_all [bodyPostS, results, Tryz.results121]; exact ⟨_, rfl⟩
def TrEnd (w0 : World) (b : Nat) (s x : List UInt8) (l : List Tok) (R : Option (List UInt8 × List UInt8 × List Tok)) (e : Ending) (w' : World) : Prop :=
 e = .returned (.bool R.isSome) ∧ Below b w0 w' ∧ match R with
   | none => ∃ t', RT w' b s t' x l
   | some (u, x', l') => RT w' b s u x' l'
theorem RT.of_gb {w w' : World} {b g : Nat} {s t x : List UInt8} {l : List Tok} (h : RT w b s t x l) (hg : w.grownBy w' (some g)) (hne : b ≠ g) (hT : ∀ v, TkO w (b + 1) v l → TkO w' (b + 1) v l) : RT w' b s t x l := by
 obtain ⟨v, h1, h2⟩ := h; exact ⟨v, ⟨h1.rk.of_gb hg (by simpa using hne), h1.sf⟩, hT v h2⟩
theorem RT.of_bl {w w' : World} {b : Nat} {s t x : List UInt8} {l : List Tok} (h : RT w b s t x l) (hb : Bl w w') : RT w' b s t x l := by
 obtain ⟨v, h1, h2⟩ := h; exact ⟨v, h1.of_bl hb, h2.of_bl hb⟩
theorem RT.ok {w : World} {b k : Nat} {s t x : List UInt8} {l : List Tok} {v : Bool} (h : RT w b s t x l) (hk : Ok w k v) (hb : b ≠ k) (u : Value) : RT (w.setCell ⟨k, 0, none⟩ u) b s t x l := by
 refine h.of_gb (gb_set (gb_refl _ _) 0 u) hb (fun v' hT => ?_); obtain ⟨ents, h1, h2, h3⟩ := hT; have key : ∀ {B e sz n : Nat} {va : Value} {xs : List Value}, w.ownsRow B e sz va n xs → e ≠ 4 → (w.setCell ⟨k, 0, none⟩ u).ownsRow B e sz va n xs := by
  intro B e sz n va xs h he; refine World.ownsRow.kept h (gb_set (gb_refl _ w) 0 u) ?_; rcases h.2 with ⟨rfl, _⟩ | ⟨g, c, cur, rfl, _, hg, _⟩
  · left; rfl
  · right; simp only [Value.ownBlock, ne_eq, Option.some.injEq]; rintro rfl; unfold Ok at hk; rw [hg] at hk; exact he (Obj.cells.inj (Option.some.inj hk)).2.1
 exact ⟨ents, h1, key h2 (by decide), fun p hp => key (h3 p hp) (by decide)⟩
theorem try_c (b : Nat) (s t x : List UInt8) (l : List Tok) (w : World) (hR : RT w b s t x l) (ht : t ≠ []) (hs : s.length ≤ 1073741824) (hx : x.length ≤ 1073741824) (hl : l.length ≤ 1073741823) (hE : ES w) (hbE : 1 < b) (hM : ML w) (hbM : 0 < b) :
 Calls Tryz.prog 81 #[.pointer (some ⟨b, 0, none⟩)] w fun e w' => TrEnd w b s x l (stP t x l) e w' := by
 obtain ⟨v, hR, hT⟩ := hR; have hbw := hR.rk.lt; have hmf : ∀ (fn : Fn) (first cap : Array Value) (w : World), (Instr.makeFunc fn first cap).run Tryz.prog w = .ok (.func fn first cap) w := fun _ _ _ _ => rfl
 have hk0 : Ok (w.alloc (.cells #[.bool false] 4)) w.heap.size false := heap_alloc_new _ _; have SC := Lib.hid (step_c b s t x l v (w.alloc (.cells #[.bool false] 4)) (hR.of_bl ((Bl.refl _).alloc _)) (hT.of_bl ((Bl.refl _).alloc _)) ht hs hx hl (hE.of_bl ((Bl.refl _).alloc _)) hbE (hM.of_bl ((Bl.refl _).alloc _)) hbM); cases hst : stP t x l with
 | none =>
   rw [hst] at SC; clear hst
   go_enter_defers Tryz.func81, Tryz.ntmps81
   go_wp2_with (go_at_call 122; (with_reducible refine SC.out.mono ?_); rintro e w1 ⟨hB1, hF1, rfl, tz, hR1⟩); have hk1 : Ok w1 w.heap.size false := (hF1.block w.heap.size (by simp) (by omega) (fun cur => by rw [heap_alloc_new]; simp)).trans hk0; obtain ⟨k1, k2⟩ := hk1.cells; have hlt : w.heap.size < w1.heap.size := (Array.getElem?_eq_some_iff.1 hk1).1; refine leaves_cons (f := 121) (args := #[.pointer (some ⟨w.heap.size, 0, none⟩)]) (by simp) (by simp [go_sem]) ?_; refine (try1_caught w.heap.size false w1 hk1).mono ?_; rintro e u' w2 ⟨rfl, rfl, o, rfl⟩; have hR2 := (hR1.ok hk1 (by omega) (.bool false)).of_bl ((Bl.refl _).alloc o); have hB2 : Below b w ((w1.setCell ⟨w.heap.size, 0, none⟩ (.bool false)).alloc o) := Below.alloc (Below.setCell ((((Bl.refl w).alloc _).to_below b (Nat.le_of_lt hbw)).trans hB1) (Nat.le_of_lt hbw) _) (by simp; omega) o; have hcell : ((w1.setCell ⟨w.heap.size, 0, none⟩ (.bool false)).alloc o).cell? ⟨w.heap.size, 0, none⟩ = some (.bool false) := by
    rw [World.cell?_alloc_old _ _ _ (by simp; omega)]; exact World.cell?_setCell_same _ _ _ k1
   generalize (w1.setCell ⟨w.heap.size, 0, none⟩ (.bool false)).alloc o = w3 at hR2 hB2 hcell ⊢; simp [Leaves, settle, results, Tryz.results81, go_sem, hcell]; exact ⟨rfl, hB2, _, hR2⟩
 | some q =>
   obtain ⟨u, x', l'⟩ := q; rw [hst] at SC; clear hst
   go_enter_defers Tryz.func81, Tryz.ntmps81
   go_wp2_with (go_at_call 122; (with_reducible refine SC.out.mono ?_); rintro e w1 ⟨hB1, hF1, rfl, hR1⟩; have hk1 : Ok w1 w.heap.size false := (hF1.block w.heap.size (by simp) (by omega) (fun cur => by rw [heap_alloc_new]; simp)).trans hk0; obtain ⟨k1, k2⟩ := hk1.cells); have hlt : w.heap.size < w1.heap.size := (Array.getElem?_eq_some_iff.1 hk1).1; refine leaves_cons (f := 121) (args := #[.pointer (some ⟨w.heap.size, 0, none⟩)]) (by simp) (by simp [go_sem]) ?_; refine (try1_idle ⟨w.heap.size, 0, none⟩ _).mono ?_; rintro e u' w2 ⟨rfl, rfl, rfl⟩; have hR2 := hR1.ok hk1 (by omega) (.bool true); have hB2 : Below b w (w1.setCell ⟨w.heap.size, 0, none⟩ (.bool true)) := Below.setCell ((((Bl.refl w).alloc _).to_below b (Nat.le_of_lt hbw)).trans hB1) (Nat.le_of_lt hbw) _; have hcell : (w1.setCell ⟨w.heap.size, 0, none⟩ (.bool true)).cell? ⟨w.heap.size, 0, none⟩ = some (.bool true) := World.cell?_setCell_same _ _ _ k1; generalize w1.setCell ⟨w.heap.size, 0, none⟩ (.bool true) = w3 at hR2 hB2 hcell ⊢; simp [Leaves, settle, results, Tryz.results81, go_sem, hcell]; exact ⟨rfl, hB2, hR2⟩
theorem own_base {w : World} {B B' : Nat} {e : TypeId} {sz n : Nat} {v : Value} {xs : List Value} (h : w.ownsRow B e sz v n xs) (hB : B' ≤ B) : w.ownsRow B' e sz v n xs := by
 refine ⟨h.1, ?_⟩; rcases h.2 with hn | ⟨k, cap, cur, rfl, hk, rest⟩
 · exact .inl hn
 · exact .inr ⟨k, cap, cur, rfl, Nat.le_trans hB hk, rest⟩
theorem TkO.base_le {w : World} {B B' : Nat} {v : Value} {l : List Tok} (h : TkO w B v l) (hB : B' ≤ B) : TkO w B' v l := by
 obtain ⟨ents, h1, h2, h3⟩ := h; exact ⟨ents, h1, own_base h2 hB, fun p hp => (h3 p hp).base_le hB⟩
theorem all_c (s : List UInt8) (w : World) (hs : s.length ≤ 1000000000) (hE : ES w) (hM : ML w) :
 Calls Tryz.prog 48 #[.string ⟨s.toArray⟩] w fun e w' => ∃ v, e = .returned v ∧ TkO w' w.heap.size v (TokL s) ∧ Bl w w' := by
 have hbE : 1 < w.heap.size := by obtain ⟨_, _, h, _⟩ := hE; exact h
 have hbM : 0 < w.heap.size := by obtain ⟨_, h, _⟩ := hM; exact h
 have hR0 : RT (w.alloc (.cells #[.string ⟨s.toArray⟩, .int .i64 0, .string ⟨#[]⟩, .slice none 0 0] 113)) w.heap.size s s [] [] := by
  refine ⟨.slice none 0 0, ⟨?_, List.suffix_refl _⟩, TkO.nil _ _⟩; unfold Rk; rw [heap_alloc_new]; simp
 go_enter Tryz.func48, Tryz.ntmps48; go_wp2; go_loopw [4] (fun _ wr => ∃ (t x : List UInt8) (l : List Tok), Hid (TokL s = tkP t x l) ∧ RT wr w.heap.size s t x l ∧ Bl w wr ∧ x.length + t.length ≤ s.length ∧ l.length + t.length ≤ s.length) (fun _ wr => s.length - atOf w.heap.size wr); case atStart => exact ⟨s, [], [], Lib.hid rfl, hR0, (Bl.refl _).alloc _, by simp, by simp⟩
 case round =>
  obtain ⟨t, x, l, HT, hRT, hbl, hxt, hlt⟩ := hrel; obtain ⟨v, hR, hT⟩ := hRT; have hln := hR.len; have hmeas := hR.meas; obtain ⟨a0, a1, a2, a3, f0, f1, f2, f3⟩ := hR.rk.cells; have hdr := sfx_drop hR.sf; obtain ⟨K, hK⟩ : ∃ K, s.length - t.length = K := ⟨_, rfl⟩; rw [hK] at a1 hdr; have hE1 := hE.of_bl hbl; have hM1 := hM.of_bl hbl; by_cases ht : t = []
  · subst ht; have hKs : K = s.length := by simpa using hK.symm
    subst hKs; have FC := Lib.hid (flush_c w.heap.size s [] x l v wr hR hT (by omega) (by omega) hE1); have HF := Lib.hid (show TokL s = flsh x l by rw [HT.out, tkP_nil]); clear hK hdr; go_wp2_with (go_at_call 82; (with_reducible refine FC.out.mono ?_); clear a0 a1 a2 a3 f0 f1 f2 f3; rintro e w1 ⟨rfl, ⟨v1, hR1, hT1⟩, hF1⟩; obtain ⟨a0, a1, a2, a3, f0, f1, f2, f3⟩ := hR1.rk.cells); go_ret; refine ⟨v1, rfl, ?_, ?_⟩
    · rw [HF.out]; exact hT1.base_le (Nat.le_succ _)
    · exact Below.trans hbl (hF1.below (fun j hj => by have := (hT.lt j hj).1; omega) (Nat.le_of_lt hR.rk.lt))
  · have hKl : (K : Int) < (s.length : Int) := by have := List.length_pos_iff.2 ht; omega
    have TC := Lib.hid (try_c w.heap.size s t x l wr ⟨v, hR, hT⟩ ht (by omega) (by omega) (by omega) hE1 hbE hM1 hbM); have HS := Lib.hid (tkP_st t x l ht); have HLN := Lib.hid (stP_len t x l ht); have HDR := Lib.hid hdr; have htl := List.length_pos_iff.2 ht; clear hK hdr ht; cases hst : stP t x l with
    | none =>
      rw [hst] at TC; have HF := Lib.hid (show TokL s = flsh (x ++ t) l by rw [HT.out, HS.out, hst]); clear hst; have hdl : (List.drop K s).length ≤ t.length := by rw [HDR.out]; exact Nat.le_refl _
      have FC := Lib.hid (fun t1 v1 W h1 h2 h3 => flush_c w.heap.size s t1 (x ++ List.drop K s) l v1 W h1 h2 (by simp only [List.length_append]; omega) (by omega) h3); go_wp2_with (first | (go_at_call 81; (with_reducible refine TC.out.mono ?_); clear a0 a1 a2 a3 f0 f1 f2 f3; rintro e w1 ⟨rfl, hB1, t1, v1, hR1, hT1⟩; obtain ⟨a0, a1, a2, a3, f0, f1, f2, f3⟩ := hR1.rk.cells; have hB1' := Below.trans hbl hB1; have hg2 := gb_set (b := w.heap.size) (gb_refl _ w1) 2 (.string ⟨(x ++ List.drop K s).toArray⟩); have hR2 : Rr _ w.heap.size s t1 (x ++ List.drop K s) v1 := ⟨hR1.rk.set2 (x ++ List.drop K s), hR1.sf⟩; have hT2 := hT1.of_gb hg2 (Nat.lt_succ_self _); have hE2 := (hE.of_bl hB1').of_gb hg2 hbE; have hR3 := hR2.of_bl (b0_drew _); have hT3 := hT2.of_bl (b0_drew _); have hE3 := hE2.of_bl (b0_drew _)) | (go_at_call 82; (with_reducible refine (FC.out _ _ _ hR3 hT3 hE3).mono ?_); clear a0 a1 a2 a3 f0 f1 f2 f3; rintro e w4 ⟨rfl, ⟨v4, hR4, hT4⟩, hF4⟩; obtain ⟨a0, a1, a2, a3, f0, f1, f2, f3⟩ := hR4.rk.cells) | go_region_with (fail)); all_goals
       go_ret; refine ⟨v4, rfl, ?_, ?_⟩
       · rw [HF.out, ← HDR.out]; exact hT4.base_le (Nat.le_succ _)
       · exact Below.trans (Below.drew (Below.setCell hB1' (Nat.le_refl _) _)) (hF4.below (fun j hj => by have := (hT3.lt j hj).1; omega) (Nat.le_of_lt hR3.rk.lt))
    | some q =>
      obtain ⟨u, x', l'⟩ := q; rw [hst] at TC; have HF := Lib.hid (show TokL s = tkP u x' l' by rw [HT.out, HS.out, hst]); obtain ⟨n1, n2, n3⟩ := HLN.out u x' l' hst; clear hst; go_wp2_with (go_at_call 81; (with_reducible refine TC.out.mono ?_); clear a0 a1 a2 a3 f0 f1 f2 f3; rintro e w1 ⟨rfl, hB1, v1, hR1, hT1⟩); go_roundw; case rel => exact ⟨u, x', l', HF, ⟨v1, hR1, hT1⟩, Below.trans hbl hB1, by omega, by omega⟩
      case measure => rw [hmeas, hR1.meas]; exact n1
theorem addr_add0 (g i : Nat) : (⟨g, 0, none⟩ : Addr).add i = ⟨g, i, none⟩ := by unfold Addr.add; split <;> simp_all
theorem TkO.tks {w : World} {base : Nat} {v : Value} {l : List Tok} (h : TkO w base v l) : TkS w v l := by
 obtain ⟨ents, rfl, h2, h3⟩ := h; have h' := h2; rcases h2.2 with ⟨rfl, h0⟩ | ⟨g, cap, cur, rfl, -, hg, -⟩
 · have : ents = [] := List.eq_nil_of_length_eq_zero h0; subst this; exact ⟨none, 0, rfl, fun i hi => absurd hi (by simp)⟩
 · refine ⟨some ⟨g, 0, none⟩, cap, by simp, fun i hi => ?_⟩; have hi' : i < ents.length := by simpa using hi
   obtain ⟨t1, t2, t3, t4⟩ := tkC_get ents i hi'; have key := fun j u h => World.ownsRow.cells h' (g := g) rfl j u h
   simp only [addr_add0] at key; refine ⟨g, 0, ents[i].2, rfl, (Array.getElem?_eq_some_iff.1 hg).1, ?_, ?_, ?_, ?_, ?_, ?_⟩
   · have := key _ _ t1; simpa using this
   · have := key _ _ t2; simpa using this
   · have := key _ _ t3; simpa using this
   · have := key _ _ t4; simpa using this
   · have := (h3 ents[i] (List.getElem_mem hi')).ats; simpa using this
   · have := h3 ents[i] (List.getElem_mem hi'); rcases this.2 with ⟨e, _⟩ | ⟨g2, cap2, cur2, e, _, _, hc, _⟩
     · exact ⟨none, 0, 0, e, Nat.le_refl _⟩
     · exact ⟨_, _, _, e, hc⟩
theorem TkS.nil (w : World) : TkS w (.slice none 0 0) [] := ⟨none, 0, rfl, fun i hi => absurd hi (by simp)⟩
def BuX (T : TypeId) (B b : Nat) (l : List UInt8) (w : World) : Prop :=
 ∃ p v, (p = .pointer none ∨ p = .pointer (some ⟨b, 0, none⟩)) ∧ w.heap[b]? = some (.cells #[p, v] T (0, 0)) ∧ w.ownsRow B 5 1 v l.length (Lib.byteCells l)
structure Fr (B b : Nat) (w w' : World) : Prop where
 os : w'.os = w.os
 tape : w'.tape = w.tape
 output : w'.output = w.output
 size : w.heap.size ≤ w'.heap.size
 block : ∀ k, k < w.heap.size → k ≠ b → (k < B ∨ ∀ cs f, w.heap[k]? ≠ some (.cells cs 5 f)) → w'.heap[k]? = w.heap[k]?
theorem Fr.refl (B b : Nat) (w : World) : Fr B b w w := ⟨rfl, rfl, rfl, Nat.le_refl _, fun _ _ _ _ => rfl⟩
theorem Fr.trans {B b : Nat} {x y z : World} (h : Fr B b x y) (k : Fr B b y z) : Fr B b x z :=
 ⟨k.os.trans h.os, k.tape.trans h.tape, k.output.trans h.output, Nat.le_trans h.size k.size, fun i hi hn ho => by
  have e := h.block i hi hn ho; exact (k.block i (Nat.lt_of_lt_of_le hi h.size) hn (ho.imp id (fun q cs f => by rw [e]; exact q cs f))).trans e⟩
theorem Fr.of_bl {B b : Nat} {w w' : World} (h : Bl w w') : Fr B b w w' := ⟨h.os, h.tape, h.output, h.size, fun k hk _ _ => h.block k hk⟩
theorem Fr.bl {B b : Nat} {x y z : World} (h : Fr B b x y) (k : Bl y z) : Fr B b x z := h.trans (Fr.of_bl k)
theorem Fr.row {B b k : Nat} {w w' : World} (h : Fr B b w w') {cs : Array Value} {t : TypeId} {f : Nat × Nat} (hk : w.heap[k]? = some (.cells cs t f)) (ht : t ≠ 5) (hn : k ≠ b) : w'.heap[k]? = some (.cells cs t f) :=
 (h.block k (Array.getElem?_eq_some_iff.1 hk).1 hn (.inr (fun c g e => ht (by rw [hk] at e; cases e; rfl)))).trans hk
theorem Fr.below {B b : Nat} {w w' : World} (h : Fr B b w w') (hB : B ≤ b) (hw : B ≤ w.heap.size) : Below B w w' :=
 ⟨h.os, h.tape, h.output, h.size, fun k hk => h.block k (by omega) (by omega) (.inl hk)⟩
theorem Fr.still {B b : Nat} {w w' : World} (h : Fr B b w w') : Still (fun k => k < B ∧ k ≠ b) w w' :=
 ⟨h.size, fun k hk hp => h.block k hk hp.2 (.inl hp.1)⟩
theorem BuX.lt {T : TypeId} {B b : Nat} {l : List UInt8} {w : World} (h : BuX T B b l w) : b < w.heap.size := by
 obtain ⟨p, v, _, h, _⟩ := h; exact (Array.getElem?_eq_some_iff.1 h).1
theorem BuX.of_bl {T : TypeId} {B b : Nat} {l : List UInt8} {w w' : World} (h : BuX T B b l w) (hb : Bl w w') : BuX T B b l w' := by
 obtain ⟨p, v, hp, hk, ho⟩ := h; exact ⟨p, v, hp, (Below.block hb b (Array.getElem?_eq_some_iff.1 hk).1).trans hk, own_bl ho hb⟩
theorem BuX.new (T : TypeId) (B : Nat) (w : World) : BuX T B w.heap.size [] (w.alloc (.cells #[.pointer none, .slice none 0 0] T)) :=
 ⟨_, _, .inl rfl, heap_alloc_new w _, World.ownsRow_nil _ _ _ _⟩
theorem BuX.base {T : TypeId} {B B' b : Nat} {l : List UInt8} {w : World} (h : BuX T B b l w) (hB : B' ≤ B) : BuX T B' b l w := by
 obtain ⟨p, v, hp, hk, ho⟩ := h; exact ⟨p, v, hp, hk, own_base ho hB⟩
theorem BuX.fresh {T : TypeId} {b : Nat} {w : World} (h : w.heap[b]? = some (.cells #[.pointer none, .slice none 0 0] T (0, 0))) (B : Nat) : BuX T B b [] w :=
 ⟨_, _, .inl rfl, h, World.ownsRow_nil _ _ _ _⟩
structure HoldsB (T : TypeId) : Prop where
 lies : liesAt Tryz.prog Tryz.prog.depth T (2 / Tryz.prog.cellsOf T) 0 62 1 = true
 ne : (T : Nat) ≠ 5
theorem copyT_fresh (T : TypeId) (hT : HoldsB T) (b : Nat) (w : World) (h0 : w.cell? ⟨b, 0, none⟩ = some (.pointer none)) (hsh : w.shape? b = some (T, 2)) (hfz : w.frozen? ⟨b, 0, none⟩ = false) :
 Calls Tryz.prog 113 #[.pointer (some ⟨b, 0, none⟩)] w fun e w' => e = .returned (.tuple #[]) ∧ w' = w.setCell ⟨b, 0, none⟩ (.pointer (some ⟨b, 0, none⟩)) := by
 obtain ⟨j, hj, hjs⟩ := Option.map_eq_some_iff.1 sizeB; have HL := Lib.hid hT.lies; go_enter Tryz.func113, Tryz.ntmps113; go_wp2; rw [Lib.run_to_unsafe w ⟨b, 0, none⟩ Tryz.underlying59 Tryz.underlying171 hj (by rw [hjs]; decide) hsh (Nat.zero_lt_succ 1)]; simp only [Result.andThen]; rw [Oper.upon_value]; go_wp2; rw [run_callFunc_extern Tryz.func146 (by kernel_rfl) (by kernel_rfl) (by kernel_rfl) (e := Extern.AbiNoEscape.same) (by kernel_rfl)]; rw [Lib.run_noEscape]; simp only [Result.andThen]; rw [Oper.upon_value]; go_wp2; rw [Lib.run_from_unsafe w ⟨b, 0, none⟩ Tryz.underlying171 Tryz.underlying59 hj hsh HL.out]; simp only [Result.andThen]; rw [Oper.upon_value]; go_wp2; go_end0; exact ⟨rfl, rfl⟩
theorem copyT_c (T : TypeId) (hT : HoldsB T) (B b : Nat) (l : List UInt8) (w : World) (h : BuX T B b l w) :
 Calls Tryz.prog 113 #[.pointer (some ⟨b, 0, none⟩)] w fun e w' => e = .returned (.tuple #[]) ∧ ∃ v, w'.heap[b]? = some (.cells #[.pointer (some ⟨b, 0, none⟩), v] T (0, 0)) ∧ w'.ownsRow B 5 1 v l.length (Lib.byteCells l) ∧ v.ownBlock ≠ some b ∧ Fr B b w w' := by
 obtain ⟨p, v, hp, hk, ho⟩ := h; have hne := Lib.ownBlock_ne ho hk hT.ne; rcases hp with rfl | rfl
 · refine (copyT_fresh T hT b w (by rw [Lib.cell_of_heap hk]; rfl) (by simp [World.shape?, hk]) (Lib.frozen_of_heap hk 0)).mono ?_; rintro e w' ⟨rfl, rfl⟩; refine ⟨rfl, v, by simp [World.setCell, Array.getElem?_modify, hk], ?_, hne, rfl, rfl, rfl, by simp [World.setCell], fun k _ hn _ => Below.heap_setCell _ _ _ _ (fun e => hn (by simp [e]))⟩; exact ho.kept (row := some b) ⟨rfl, rfl, rfl, by simp [World.setCell], fun k _ hk => Below.heap_setCell _ _ _ _ (fun e => hk (by simp [e]))⟩ (Or.inr hne)
 · refine (copyCheck_used b w (by rw [Lib.cell_of_heap hk]; rfl)).mono ?_; rintro e w' ⟨rfl, rfl⟩; exact ⟨rfl, v, hk, ho, hne, Fr.refl _ _ _⟩
theorem BuX_put {T : TypeId} (hT : HoldsB T) {B b : Nat} {v v' : Value} {l l' : List UInt8} {w w1 w2 : World} (hk : w1.heap[b]? = some (.cells #[.pointer (some ⟨b, 0, none⟩), v] T (0, 0))) (ho : w1.ownsRow B 5 1 v l.length (Lib.byteCells l)) (hne : v.ownBlock ≠ some b) (hF : Fr B b w w1) (hg : w1.grownBy w2 v.ownBlock) (ho' : w2.ownsRow B 5 1 v' l'.length (Lib.byteCells l')) :
 w2.heap[b]? = some (.cells #[.pointer (some ⟨b, 0, none⟩), v] T (0, 0)) ∧ BuX T B b l' (w2.setCell ⟨b, 1, none⟩ v') ∧ Fr B b w (w2.setCell ⟨b, 1, none⟩ v') := by
 have hlt : b < w1.heap.size := (Array.getElem?_eq_some_iff.1 hk).1; have hb2 : w2.heap[b]? = some (.cells #[.pointer (some ⟨b, 0, none⟩), v] T (0, 0)) := by
  rw [hg.block b hlt (fun e => hne e.symm)]; exact hk
 have hne' := Lib.ownBlock_ne ho' hb2 hT.ne; refine ⟨hb2, ⟨_, v', .inr rfl, by simp [World.setCell, Array.getElem?_modify, hb2], ?_⟩, hF.trans ⟨hg.os, hg.tape, hg.output, by rw [show (w2.setCell ⟨b, 1, none⟩ v').heap.size = w2.heap.size by simp [World.setCell]]; exact hg.size, fun k hk hn hx => ?_⟩⟩
 · exact ho'.kept (row := some b) ⟨rfl, rfl, rfl, by simp [World.setCell], fun k _ hk => Below.heap_setCell _ _ _ _ (fun e => hk (by simp [e]))⟩ (Or.inr hne')
 · rw [Below.heap_setCell _ _ _ _ (fun e => hn (by simp [e]))]; refine hg.block k hk (fun e => ?_); rcases ho.2 with ⟨rfl, _⟩ | ⟨g, cap, cur, rfl, hB, hgc, _⟩
   · simp [Value.ownBlock] at e
   · simp only [Value.ownBlock, Option.some.injEq] at e; subst e; rcases hx with hx | hx
     · omega
     · exact hx _ _ hgc
theorem writeT_c (T : TypeId) (hT : HoldsB T) (B b : Nat) (l a : List UInt8) (w : World) (h : BuX T B b l w) (hlen : l.length + a.length ≤ 140737488355328) (hBw : B ≤ w.heap.size) :
 Calls Tryz.prog 75 #[.pointer (some ⟨b, 0, none⟩), .string ⟨a.toArray⟩] w fun e w' => e = .returned (.tuple #[.int .i64 a.length, .nilIface]) ∧ BuX T B b (l ++ a) w' ∧ Fr B b w w' := by
 obtain ⟨i0, hi, hz0, hz1, hz2⟩ := info_parts infoByte; have HT := Lib.hid hT; have hle : l.length + (⟨a.toArray⟩ : ByteArray).size ≤ 140737488355328 := hlen; clear hT; go_enter Tryz.func75, Tryz.ntmps75; go_wp2_with (go_at_call 113; refine (copyT_c T HT.out B b l _ h).mono ?_); rintro e w1 ⟨rfl, v, hbk, hown, hne, hF⟩; have c0 : w1.cell? ⟨b, 0, none⟩ = some (.pointer (some ⟨b, 0, none⟩)) := by rw [Lib.cell_of_heap hbk]; rfl
 have c1 : w1.cell? ⟨b, 1, none⟩ = some v := by rw [Lib.cell_of_heap hbk]; rfl
 go_wp2_with (at_builtin; refine Lib.wpList_append_own_string _ rfl _ _ 60 9 rfl B 5 i0 Tryz.underlying60 Tryz.underlying9 hi hz0 hz1 hz2 _ _ _ rfl hown ⟨a.toArray⟩ rfl ?c3 ?c4 ?c5 ?_); case c3 => unfold maxLen; omega
 case c4 => omega
 case c5 => have := hF.size; omega
 intro v' w2 hown' hgrow _; obtain ⟨hb2, hA, hbe⟩ := BuX_put (l' := l ++ a) HT.out hbk hown hne hF hgrow (by rw [Lib.byteCells_append, List.length_append]; exact (by simpa [Lib.strCells_length] using hown' : w2.ownsRow B 5 1 v' (l.length + a.length) (Lib.byteCells l ++ Lib.strCells ⟨a.toArray⟩))); have d0 : w2.cell? ⟨b, 0, none⟩ = some (.pointer (some ⟨b, 0, none⟩)) := by rw [Lib.cell_of_heap hb2]; rfl
 have d1 : w2.cell? ⟨b, 1, none⟩ = some v := by rw [Lib.cell_of_heap hb2]; rfl
 have f1 : w2.frozen? ⟨b, 1, none⟩ = false := Lib.frozen_of_heap hb2 1; obtain ⟨ao, n', cap, rfl⟩ : ∃ ao n' cap, v' = .slice ao n' cap := by
  rcases hown'.2 with ⟨hv, _⟩ | ⟨g, cap, cur, hv, _⟩
  · exact ⟨_, _, _, hv⟩
  · exact ⟨_, _, _, hv⟩
 go_wp2; go_ret2; exact ⟨rfl, hA, hbe⟩
theorem writeB_c (T : TypeId) (hT : HoldsB T) (B b : Nat) (l : List UInt8) (c : UInt8) (w : World) (h : BuX T B b l w) (hlen : l.length + 1 ≤ 140737488355328) (hBw : B ≤ w.heap.size) :
 Calls Tryz.prog 84 #[.pointer (some ⟨b, 0, none⟩), .int .u8 (c.toNat : Int)] w fun e w' => e = .returned .nilIface ∧ BuX T B b (l ++ [c]) w' ∧ Fr B b w w' := by
 obtain ⟨i0, hi, hz0, hz1, hz2⟩ := info_parts infoByte; have HT := Lib.hid hT; clear hT; go_enter Tryz.func84, Tryz.ntmps84; go_wp2_with (go_at_call 113; refine (copyT_c T HT.out B b l _ h).mono ?_); rintro e w1 ⟨rfl, v, hbk, hown, hne, hF⟩; have c0 : w1.cell? ⟨b, 0, none⟩ = some (.pointer (some ⟨b, 0, none⟩)) := by rw [Lib.cell_of_heap hbk]; rfl
 have c1 : w1.cell? ⟨b, 1, none⟩ = some v := by rw [Lib.cell_of_heap hbk]; rfl
 have hlt1 : b < w1.heap.size := (Array.getElem?_eq_some_iff.1 hbk).1; go_wp2_with (at_builtin; refine wpList_append_own _ rfl _ _ 60 rfl B 5 i0 (.int .u8 0) 1 1 Tryz.underlying60 hi hz0 hz1 hz2 rfl (by decide) _ _ _ rfl (hown.alloc _) ⟨w1.heap.size, 0, none⟩ 1 1 [.int .u8 (c.toNat : Int)] rfl rfl (new_cells w1 #[.int .u8 (c.toNat : Int)] _) (by simp [Value.oneCell']) (by unfold maxLen; omega) (by omega) (by have := hF.size; simp; omega) ?_); intro v' w2 hown' hgrow _; obtain ⟨hb2, hA, hbe⟩ := BuX_put (l' := l ++ [c]) HT.out ((Lib.alloc_old w1 _ b hlt1).trans hbk) (hown.alloc _) hne (hF.bl ((Bl.refl _).alloc _)) hgrow (by rw [Lib.byteCells_append, List.length_append]; simpa [Lib.byteCells] using hown'); have d0 : w2.cell? ⟨b, 0, none⟩ = some (.pointer (some ⟨b, 0, none⟩)) := by rw [Lib.cell_of_heap hb2]; rfl
 have d1 : w2.cell? ⟨b, 1, none⟩ = some v := by rw [Lib.cell_of_heap hb2]; rfl
 have f1 : w2.frozen? ⟨b, 1, none⟩ = false := Lib.frozen_of_heap hb2 1; obtain ⟨ao, n', cap, rfl⟩ : ∃ ao n' cap, v' = .slice ao n' cap := by
  rcases hown'.2 with ⟨hv, _⟩ | ⟨g, cap, cur, hv, _⟩
  · exact ⟨_, _, _, hv⟩
  · exact ⟨_, _, _, hv⟩
 go_wp2; go_ret; exact ⟨rfl, hA, hbe⟩
theorem Fr_freeze {B b g : Nat} {w : World} {cur : Array Value} (hg : w.heap[g]? = some (.cells cur 5 (0, 0))) (hB : B ≤ g) (n : Nat) : Fr B b w (w.drew.freeze ⟨g, 0, none⟩ n) := by
 have h := Lib.below_freeze (Below.drew (Below.refl g w)) (p := ⟨g, 0, none⟩) (Nat.le_refl g) n; refine ⟨h.os, h.tape, h.output, h.size, fun k hk hn hx => ?_⟩; have hkg : k ≠ g := by
  rintro rfl; rcases hx with hx | hx
  · omega
  · exact hx _ _ hg
 rcases Nat.lt_or_ge k g with q | q
 · exact h.block k q
 · unfold World.freeze; split
   · rfl
   · rw [Array.getElem?_modify, if_neg (fun e : g = k => hkg e.symm)]; rfl
theorem noStr (W : World) (q : Option Addr) : (Builtin.unsafeString_ #[95, 3] 9 #[.pointer q, .int .i64 0]).run Tryz.prog W = .ok (.string .empty) W :=
 Lib.run_unsafeString_none W _ _ _ q
theorem cellsU8 : Tryz.prog.cellsOf 5 = 1 := by kernel_rfl
theorem strT_c (T : TypeId) (B b : Nat) (l : List UInt8) (w : World) (h : BuX T B b l w) :
 Calls Tryz.prog 44 #[.pointer (some ⟨b, 0, none⟩)] w fun e w' => e = .returned (.string ⟨l.toArray⟩) ∧ Fr B b w w' := by
 obtain ⟨p, v, -, hbk, hown⟩ := h; have hlt : b < w.heap.size := (Array.getElem?_eq_some_iff.1 hbk).1; have c0 : w.cell? ⟨b, 1, none⟩ = some v := by rw [Lib.cell_of_heap hbk]; rfl
 have hUS := noStr; by_cases hl : l = []
 · subst hl; rcases hown.2 with ⟨rfl, _⟩ | ⟨g, cap, cur, rfl, hbg, hg, _, _, _, _⟩
   · have hSD : (Builtin.unsafeSliceData_ #[60] 95 #[.slice none 0 0]).run Tryz.prog w.drew = .ok (.pointer none) w.drew := rfl; clear hown; go_enter Tryz.func44, Tryz.ntmps44; go_wp2; go_region; all_goals (go_wp2; go_ret; exact ⟨rfl, Fr.of_bl (Bl.refl w).drew⟩)
   · by_cases hc : cap = 0
     · subst hc; have hSD : (Builtin.unsafeSliceData_ #[60] 95 #[.slice (some ⟨g, 0, none⟩) 0 0]).run Tryz.prog w.drew = .ok (.pointer (some ⟨w.drew.heap.size, 0, none⟩)) (w.drew.alloc (.view ⟨g, 0, none⟩ 5)) :=
        Lib.run_unsafeSliceData_zero w.drew _ _ 5 Tryz.underlying95 ⟨g, 0, none⟩ 0 (5, cur.size) (by have hg' : w.drew.heap[g]? = some (.cells cur 5 (0, 0)) := hg; simp [World.shape?, hg'])
       have c2 : (w.alloc (.view ⟨g, 0, none⟩ 5)).drew.cell? ⟨b, 1, none⟩ = some (.slice (some ⟨g, 0, none⟩) 0 0) := by
        have : (w.alloc (.view ⟨g, 0, none⟩ 5)).drew.heap[b]? = _ := (Lib.alloc_old w _ b hlt).trans hbk; rw [Lib.cell_of_heap this]; rfl
       clear hown; go_enter Tryz.func44, Tryz.ntmps44; go_wp2; go_region; all_goals (go_wp2; go_ret; exact ⟨rfl, Fr.of_bl (((Bl.refl w).alloc _).drew)⟩)
     · have hSD : (Builtin.unsafeSliceData_ #[60] 95 #[.slice (some ⟨g, 0, none⟩) 0 cap]).run Tryz.prog w.drew = .ok (.pointer (some ⟨g, 0, none⟩)) w.drew :=
        Lib.run_unsafeSliceData_row _ _ _ _ _ _ hc
       clear hc hown; go_enter Tryz.func44, Tryz.ntmps44; go_wp2; go_region; all_goals (go_wp2; go_ret; exact ⟨rfl, Fr.of_bl (Bl.refl w).drew⟩)
 · have hl0 : l.length ≠ 0 := by simpa using hl
   rcases hown.2 with ⟨_, hz⟩ | ⟨g, cap, cur, rfl, hbg, hg, hnc, hcm, hcs, htake⟩
   · exact absurd hz hl0
   have hSD : (Builtin.unsafeSliceData_ #[60] 95 #[.slice (some ⟨g, 0, none⟩) l.length cap]).run Tryz.prog w.drew = .ok (.pointer (some ⟨g, 0, none⟩)) w.drew :=
    Lib.run_unsafeSliceData_row _ _ _ _ _ _ (by omega)
   have hUT : (Builtin.unsafeString_ #[95, 3] 9 #[.pointer (some ⟨g, 0, none⟩), .int .i64 l.length]).run Tryz.prog w.drew = .ok (.string ⟨l.toArray⟩) (w.drew.freeze ⟨g, 0, none⟩ l.length) := by
    refine Lib.run_unsafeString_row w.drew 95 3 9 5 Tryz.underlying95 cellsU8 g cur.size (by have hg' : w.drew.heap[g]? = some (.cells cur 5 (0, 0)) := hg; simp [World.shape?, hg']) l hl (by omega) (by unfold maxLen at hcm; omega) ?_; intro j x hx; have := hown.cells (g := g) rfl j (.int .u8 x.toNat) (by simp [Lib.byteCells, hx]); exact this
   have HE := Lib.hid (Fr_freeze (b := b) hg hbg l.length); clear hown hUS hcs htake hg hl hl0 hcm hnc; go_enter Tryz.func44, Tryz.ntmps44; go_wp2; go_region; all_goals (go_wp2; go_ret; exact ⟨rfl, HE.out⟩)
mutual
def dpN : Nd → Nat
 | .mk n _ _ k => if n = [] then 0 else 1 + dpL k
def dpL : List Nd → Nat
 | [] => 0
 | d :: l => max (dpN d) (dpL l)
end
mutual
def cntN : Nd → Nat
 | .mk _ _ _ k => 1 + cntL k
def cntL : List Nd → Nat
 | [] => 0
 | d :: l => cntN d + cntL l
end
theorem dp_of (l : List Nd) : ∀ f, deepL f l ≤ f → dpL l ≤ f := by
 induction l using Nd.ind with
 | h0 => intro f _; simp [dpL]
 | h1 n a x k l ik il =>
   intro f h; simp only [deepL, dpL, Nat.max_le, deepN, dpN] at h ⊢; refine ⟨?_, il f h.2⟩; split
   · omega
   · rename_i hn; rw [if_neg hn] at h; cases f with
     | zero => simp at h
     | succ f => have := ik f (by have := h.1; simp only [] at this; omega); omega
theorem deep_le (l : List Nd) : ∀ f, deepL f l ≤ dpL l := by
 induction l using Nd.ind with
 | h0 => intro f; simp [deepL]
 | h1 n a x k l ik il =>
   intro f; have := il f; simp only [deepL, dpL, deepN, dpN]; by_cases hn : n = []
   · simp only [if_pos hn]; omega
   · simp only [if_neg hn]; cases f with
     | zero => simp only []; omega
     | succ f => have := ik f; simp only []; omega
theorem many_le (l : List Nd) : ∀ f, manyL f l ≤ cntL l := by
 induction l using Nd.ind with
 | h0 => intro f; simp [manyL]
 | h1 n a x k l ik il =>
   intro f; have := il f; simp only [manyL, cntL, manyN, cntN]; by_cases hn : n = []
   · simp only [if_pos hn]; omega
   · simp only [if_neg hn]; cases f with
     | zero => simp only []; omega
     | succ f => have := ik f; simp only []; omega
def lastT (o : List Nd) : Bool := match o.getLast? with | some d => decide (d.n = []) | none => false
theorem lastT_snoc (o : List Nd) (d : Nd) : lastT (o ++ [d]) = decide (d.n = []) := by simp [lastT]
theorem pt_no (o : List Nd) (d : Nd) (h : lastT o = false) : pt o d = o ++ [d] := by
 unfold pt; unfold lastT at h; split
 · rename_i a x k e; rw [e] at h; simp [Nd.n] at h
 · rfl
theorem ckL_cons {r : List Nm} {p : Bool} {d : Nd} {l : List Nd} (h : ckL r p (d :: l) = 0) : ckN r p d = 0 ∧ ckL r (decide (d.n = [])) l = 0 := by
 simp only [ckL] at h; split at h
 · rename_i a; exact absurd h a
 · rename_i a; exact ⟨Decidable.not_not.1 a, h⟩
theorem ckN_mk {r : List Nm} {p : Bool} {n : Nm} {a : List Atr} {x : List UInt8} {k : List Nd} (h : ckN r p (.mk n a x k) = 0) : ndE r (.mk n a x k) = 0 ∧ ¬ (p = true ∧ n = []) ∧ ckL (n :: r) false k = 0 := by
 simp only [ckN] at h; split at h
 · rename_i a; exact absurd h a
 · rename_i a; split at h
   · simp at h
   · rename_i b; exact ⟨Decidable.not_not.1 a, b, h⟩
theorem ndE_tx {r : List Nm} {a : List Atr} {x : List UInt8} {k : List Nd} (h : ndE r (.mk [] a x k) = 0) : x ≠ [] ∧ a = [] ∧ k = [] := by
 simp only [ndE, if_true] at h; split at h
 · simp at h
 rename_i h1; exact ⟨fun e => h1 (.inl e), Decidable.byContradiction fun e => h1 (.inr (.inl e)), Decidable.byContradiction fun e => h1 (.inr (.inr e))⟩
theorem ckT_zero {l : List Nd} (h : ckT l = 0) : manyL 8 l ≤ 3000 ∧ dpL l ≤ 8 ∧ ckL [] false l = 0 := by
 unfold ckT at h; split at h
 · simp at h
 · rename_i h1; exact ⟨by omega, dp_of l 8 (by omega), h⟩
def IvF (m : Nat) : List (Nm × List Atr × List Nd) → Prop
 | [] => True
 | (n, a, k) :: f => n ≠ [] ∧ isNm n = true ∧ emptyN n = false ∧ atE a = 0 ∧ cls (f.map (·.1)) n = f.length ∧ ckL (n :: f.map (·.1)) false k = 0 ∧ f.length + 1 + dpL k ≤ 8 ∧ IvF m f
def Iv (s : St) : Prop := IvF 0 s.2 ∧ ckL [] false s.1 = 0 ∧ dpL s.1 ≤ 8
theorem ckL_app (r : List Nm) : ∀ (l : List Nd) (p : Bool) (m : List Nd), ckL r p l = 0 → ckL r (if l = [] then p else lastT l) m = 0 → ckL r p (l ++ m) = 0 := by
 intro l; induction l with
 | nil => intro p m _ h; simpa using h
 | cons d l ih =>
   intro p m h hm; obtain ⟨h1, h2⟩ := ckL_cons h; simp only [List.cons_append, ckL]; rw [if_neg (by simp [h1])]; refine ih _ m h2 ?_; rw [if_neg (by simp)] at hm; split
   · rename_i e; subst e; simpa [lastT] using hm
   · rename_i e; have : lastT (d :: l) = lastT l := by unfold lastT; rw [List.getLast?_cons]; cases e2 : l.getLast? with
      | none => simp at e2; exact absurd e2 e
      | some v => simp
     rw [← this]; exact hm
theorem ckL_init (r : List Nm) : ∀ (l : List Nd) (p : Bool) (d : Nd), ckL r p (l ++ [d]) = 0 → ckL r p l = 0 ∧ ckN r (if l = [] then p else lastT l) d = 0 := by
 intro l; induction l with
 | nil => intro p d h; exact ⟨rfl, (ckL_cons h).1⟩
 | cons c l ih =>
   intro p d h; obtain ⟨h1, h2⟩ := ckL_cons (l := l ++ [d]) h; obtain ⟨g1, g2⟩ := ih _ d h2; refine ⟨?_, ?_⟩
   · simp only [ckL]; rw [if_neg (by simp [h1])]; exact g1
   · rw [if_neg (by simp)]; split at g2
     · rename_i e; subst e; simpa [lastT] using g2
     · rename_i e; have : lastT (c :: l) = lastT l := by unfold lastT; rw [List.getLast?_cons]; cases e2 : l.getLast? with
        | none => simp at e2; exact absurd e2 e
        | some v => simp
       rw [this]; exact g2
theorem ckN_any {r : List Nm} {p q : Bool} {d : Nd} (h : ckN r p d = 0) (hq : q = true → d.n ≠ []) : ckN r q d = 0 := by
 cases d with
 | mk n a x k =>
   obtain ⟨h1, h2, h3⟩ := ckN_mk h; simp only [ckN]; rw [if_neg (by simp [h1]), if_neg (by rintro ⟨a, b⟩; exact hq a b), h3]
theorem pt_ck (r : List Nm) (l : List Nd) (d : Nd) (h : ckL r false l = 0) (hd : ckN r false d = 0) : ckL r false (pt l d) = 0 := by
 by_cases hT : lastT l = true ∧ d.n = []
 · obtain ⟨hT, hn⟩ := hT; rcases List.eq_nil_or_concat l with rfl | ⟨o, c, rfl⟩
   · simp [lastT] at hT
   · rw [List.concat_eq_append] at *; rw [lastT_snoc] at hT; cases c with
     | mk n a x k =>
       obtain rfl : n = [] := of_decide_eq_true hT; obtain ⟨g1, g2⟩ := ckL_init r o false _ h; obtain ⟨g3, g4, g5⟩ := ckN_mk g2; obtain ⟨g6, rfl, rfl⟩ := ndE_tx g3; have e : pt (o ++ [.mk [] [] x []]) d = o ++ [.mk [] [] (x ++ d.x) []] := by
        unfold pt; simp [hn]
       rw [e]; refine ckL_app r o false _ g1 ?_; simp only [ckL, ckN, ndE]; have g7 : ¬ (if o = [] then false else lastT o) = true := fun e => g4 ⟨e, rfl⟩
       simp [g6]; intro e1 e2; rw [if_neg e1] at g7; exact absurd e2 g7
 · have hap : pt l d = l ++ [d] := by
    by_cases hL : lastT l = true
    · exact pt_el l d (fun e => hT ⟨hL, e⟩)
    · exact pt_no l d (by simpa using hL)
   rw [hap]; refine ckL_app r l false _ h ?_; have : ckN r (if l = [] then false else lastT l) d = 0 := by
    refine ckN_any hd (fun e => ?_); split at e
    · simp at e
    · exact fun e2 => hT ⟨e, e2⟩
   simp only [ckL]; rw [if_neg (fun e => e this)]
theorem dp_app (l m : List Nd) : dpL (l ++ m) = max (dpL l) (dpL m) := by
 induction l with
 | nil => simp [dpL]
 | cons d l ih => simp only [List.cons_append, dpL, ih]; omega
theorem pt_dp (l : List Nd) (d : Nd) (m : Nat) (h : dpL l ≤ m) (hd : dpN d ≤ m) : dpL (pt l d) ≤ m := by
 unfold pt; split
 · rename_i a x k e; split
   · rcases List.eq_nil_or_concat l with rfl | ⟨o, c, rfl⟩
     · simp at e
     · simp only [List.concat_eq_append, List.getLast?_append, List.getLast?_singleton, Option.some_or, Option.some.injEq, List.dropLast_concat] at *; rw [dp_app] at *; simp [dpL, dpN] at *; omega
   · rw [dp_app]; simp only [dpL]; omega
 · rw [dp_app]; simp only [dpL]; omega
theorem iv_put {s : St} {d : Nd} (h : Iv s) (hd : ckN (nms s) false d = 0) (hp : s.2.length + dpN d ≤ 8) : Iv (put s d) := by
 obtain ⟨r, f⟩ := s; cases f with
 | nil => exact ⟨trivial, pt_ck _ _ _ h.2.1 hd, pt_dp _ _ _ h.2.2 (by simpa using hp)⟩
 | cons c f =>
   obtain ⟨n, a, k⟩ := c; obtain ⟨⟨h1, h2, h3, h4, h5, h6, h7, h8⟩, g⟩ := h; simp only [List.length_cons] at hp; refine ⟨⟨h1, h2, h3, h4, h5, pt_ck _ _ _ h6 hd, ?_, h8⟩, g⟩; have := pt_dp k d (8 - (f.length + 1)) (by omega) (by omega); omega
theorem iv_pop {s : St} (h : Iv s) : Iv (pop s) := by
 obtain ⟨r, f⟩ := s; cases f with
 | nil => exact h
 | cons c f =>
   obtain ⟨n, a, k⟩ := c; obtain ⟨⟨h1, h2, h3, h4, h5, h6, h7, h8⟩, g⟩ := h; refine iv_put (s := (r, f)) ⟨h8, g⟩ ?_ ?_
   · show ckN (f.map (·.1)) false _ = 0; simp only [ckN, ndE, if_neg h1]; rw [if_neg (show ¬ (([] : List UInt8) ≠ [] ∨ isNm n = false ∨ emptyN n = true ∧ k ≠ []) by simp [h2, h3])]; simp [h4, h5, h6, h1]
   · simp only [dpN, if_neg h1]; omega
theorem iv_pops (j : Nat) : ∀ {s : St}, Iv s → Iv (pops j s) := by
 induction j with
 | zero => intro s h; exact h
 | succ j ih => intro s h; exact ih (iv_pop h)
theorem iv_good {m : Nat} : ∀ {f : List (Nm × List Atr × List Nd)}, IvF m f → Good (f.map (·.1)) := by
 intro f; induction f with
 | nil => intro _; trivial
 | cons c f ih =>
   obtain ⟨n, a, k⟩ := c; intro h; exact ⟨by simpa using h.2.2.2.2.1, ih h.2.2.2.2.2.2.2⟩
theorem iv_len {m : Nat} {f : List (Nm × List Atr × List Nd)} (h : IvF m f) : f.length ≤ 8 := by
 cases f with
 | nil => simp
 | cons c f => obtain ⟨n, a, k⟩ := c; have := h.2.2.2.2.2.2.1; simp; omega
theorem tkE_zero {t : Tok} (h : tkE t = 0) : TOk t ∧ (t.1 = 1 → t.2.1 = [] ∧ t.2.2.1 = [] ∧ t.2.2.2 ≠ []) ∧ (t.1 ≠ 1 → t.2.2.2 = [] ∧ isNm t.2.1 = true ∧ t.2.1 ≠ [] ∧ atE t.2.2.1 = 0) := by
 unfold tkE at h; split at h
 · simp at h
 rename_i h1; split at h
 · simp at h
 rename_i h2; have e1 : t.1 ≠ 1 → isNm t.2.1 = true ∧ atE t.2.2.1 = 0 := by
  intro e; rw [if_neg e] at h; split at h
  · simp at h
  · rename_i h3; exact ⟨by simpa using h3, h⟩
 refine ⟨⟨by omega, fun e => isNm_ne (e1 (by omega)).1⟩, fun e => ⟨?_, ?_, ?_⟩, fun e => ⟨?_, (e1 e).1, isNm_ne (e1 e).1, (e1 e).2⟩⟩
 · exact Decidable.byContradiction fun q => h2 (.inl ⟨e, .inl q⟩)
 · exact Decidable.byContradiction fun q => h2 (.inl ⟨e, .inr (.inl q)⟩)
 · exact fun q => h2 (.inl ⟨e, .inr (.inr q)⟩)
 · exact Decidable.byContradiction fun q => h2 (.inr (.inl ⟨e, q⟩))
theorem iv_stp {s : St} {t : Tok} (h : Iv s) (ht : tkE t = 0) : Iv (stp s t) := by
 obtain ⟨hk, h1, h2⟩ := tkE_zero ht; unfold stp; by_cases e1 : t.1 = 1
 · rw [if_pos e1]; obtain ⟨g1, g2, g3⟩ := h1 e1; refine iv_put h ?_ ?_
   · simp [ckN, ndE, g3, ckL]
   · simp only [dpN, if_true]; have := iv_len h.1; omega
 rw [if_neg e1]; obtain ⟨g1, g2, g3, g4⟩ := h2 e1; by_cases e2 : t.1 = 2
 · rw [if_pos e2]; have hP := iv_pops (s.2.length - cls (nms s) t.2.1) h; obtain ⟨S, hS⟩ : ∃ S, S = pops (s.2.length - cls (nms s) t.2.1) s := ⟨_, rfl⟩; have hcl : cls (nms S) t.2.1 = S.2.length := by
    rw [hS, pops_nms, pops_len, ← nms_len, cls_idem (nms s) _ (iv_good h.1)]; have := cls_le (nms s) t.2.1; omega
   rw [← hS] at hP ⊢; unfold opn; have hl := iv_len hP.1; split
   · exact hP
   rename_i h8; split
   · rename_i he; refine iv_put hP ?_ ?_
     · simp only [ckN, ndE, if_neg g3]; rw [if_neg (show ¬ (([] : List UInt8) ≠ [] ∨ isNm t.2.1 = false ∨ emptyN t.2.1 = true ∧ ([] : List Nd) ≠ []) by simp [g2])]; rw [nms_len]; simp [g4, hcl, ckL]
     · simp only [dpN, if_neg g3, dpL]; omega
   · rename_i he; refine ⟨⟨g3, g2, by simpa using he, g4, hcl, rfl, by simp only [dpL]; omega, hP.1⟩, hP.2⟩
 rw [if_neg e2]; split
 · split
   · exact iv_pops _ h
   · exact h
 · exact h
theorem iv_foldl (l : List Tok) : ∀ {s : St}, Iv s → (∀ t ∈ l, tkE t = 0) → Iv (l.foldl stp s) := by
 induction l with
 | nil => intro s h _; exact h
 | cons t l ih => intro s h ht; exact ih (iv_stp h (ht t (by simp))) (fun u hu => ht u (by simp [hu]))
theorem tkEF_each (l : List Tok) : ∀ k, tkEF k l = 0 → ∀ t ∈ l, tkE t = 0 := by
 induction l with
 | nil => intro k _ t ht; simp at ht
 | cons u l ih =>
   intro k h t ht; simp only [tkEF] at h; split at h
   · rename_i a; exact absurd h a
   rename_i a; split at h
   · simp at h
   rcases List.mem_cons.1 ht with rfl | ht
   · exact Decidable.not_not.1 a
   · exact ih _ h t ht
theorem ckE_all {l : List Tok} (h : ckE l = 0) : l.length ≤ 3000 ∧ ∀ t ∈ l, tkE t = 0 := by
 unfold ckE at h; split at h
 · simp at h
 · exact ⟨by omega, tkEF_each l 0 h⟩
theorem cnt_app (l m : List Nd) : cntL (l ++ m) = cntL l + cntL m := by
 induction l with
 | nil => simp [cntL]
 | cons d l ih => simp only [List.cons_append, cntL, ih]; omega
theorem pt_cnt (l : List Nd) (d : Nd) : cntL (pt l d) ≤ cntL l + cntN d := by
 unfold pt; split
 · rename_i a x k e; split
   · rcases List.eq_nil_or_concat l with rfl | ⟨o, c, rfl⟩
     · simp at e
     · simp only [List.concat_eq_append, List.getLast?_append, List.getLast?_singleton, Option.some_or, Option.some.injEq, List.dropLast_concat] at *; subst e; rw [cnt_app, cnt_app]; simp only [cntL, cntN]; omega
   · rw [cnt_app]; simp [cntL]
 · rw [cnt_app]; simp [cntL]
def cntF : List (Nm × List Atr × List Nd) → Nat
 | [] => 0
 | (_, _, k) :: f => 1 + cntL k + cntF f
def cntS (s : St) : Nat := cntL s.1 + cntF s.2
theorem put_cnt (s : St) (d : Nd) : cntS (put s d) ≤ cntS s + cntN d := by
 obtain ⟨r, f⟩ := s; cases f with
 | nil => have := pt_cnt r d; simp only [put, cntS, cntF]; omega
 | cons c f => obtain ⟨n, a, k⟩ := c; have := pt_cnt k d; simp only [put, cntS, cntF]; omega
theorem pop_cnt (s : St) : cntS (pop s) ≤ cntS s := by
 obtain ⟨r, f⟩ := s; cases f with
 | nil => exact Nat.le_refl _
 | cons c f =>
   obtain ⟨n, a, k⟩ := c; have := put_cnt (r, f) (.mk n a [] k); simp only [pop, cntS, cntF, cntN] at *; omega
theorem pops_cnt (j : Nat) : ∀ s : St, cntS (pops j s) ≤ cntS s := by
 induction j with
 | zero => intro s; exact Nat.le_refl _
 | succ j ih => intro s; exact Nat.le_trans (ih _) (pop_cnt s)
theorem stp_cnt (s : St) (t : Tok) : cntS (stp s t) ≤ cntS s + 1 := by
 unfold stp; split
 · have := put_cnt s (.mk [] [] t.2.2.2 []); simp only [cntN, cntL] at this; omega
 split
 · have h1 := pops_cnt (s.2.length - cls (nms s) t.2.1) s; unfold opn; split
   · omega
   split
   · have h2 := put_cnt (pops (s.2.length - cls (nms s) t.2.1) s) (.mk t.2.1 t.2.2.1 [] []); simp only [cntN, cntL] at h2; omega
   · simp only [cntS, cntF, cntL] at *; omega
 split
 · split
   · rename_i i _; have h1 := pops_cnt (s.2.length - i) s; omega
   · omega
 · omega
theorem foldl_cnt (l : List Tok) : ∀ s : St, cntS (l.foldl stp s) ≤ cntS s + l.length := by
 induction l with
 | nil => intro s; exact Nat.le_refl _
 | cons t l ih => intro s; have := ih (stp s t); have := stp_cnt s t; simp only [List.foldl_cons, List.length_cons]; omega
theorem iv_fin {s : St} (h : Iv s) : ckL [] false (fin s) = 0 ∧ dpL (fin s) ≤ 8 := (iv_pops s.2.length h).2
theorem fin_cnt (s : St) : cntL (fin s) ≤ cntS s := by
 have := pops_cnt s.2.length s; unfold fin; unfold cntS at *; omega
theorem ckT_ofM (l : List Tok) (h : ckE l = 0) : ckT (ofM l) = 0 := by
 obtain ⟨h1, h2⟩ := ckE_all h; have hI := iv_fin (iv_foldl l (s := ([], [])) ⟨trivial, rfl, by simp [dpL]⟩ h2); have hc := foldl_cnt l ([], []); have hf := fin_cnt (l.foldl stp ([], [])); have hm := many_le (ofM l) 8; have hd := deep_le (ofM l) 8; unfold ofM at *; simp only [cntS, cntL, cntF] at hc hf; unfold ckT; rw [if_neg (by omega)]; exact hI.1
theorem ckE_tok {l : List Tok} (h : ckE l = 0) : ∀ t ∈ l, TOk t := fun t ht => (tkE_zero ((ckE_all h).2 t ht)).1
theorem ntx_app (l m : List Nd) : ntxL (l ++ m) = ntxL l ++ ntxL m := by
 induction l with
 | nil => simp [ntxL]
 | cons d l ih => simp [ntxL, ih]
def Lf (l : List Nd) : Prop := ∀ d ∈ l, d.n = [] → d.k = []
theorem ntx_pt (l : List Nd) (d : Nd) (hl : Lf l) (hd : d.n = [] → d.k = []) : ntxL (pt l d) = ntxL l ++ ntxN d ∧ Lf (pt l d) := by
 have happ : ntxL (l ++ [d]) = ntxL l ++ ntxN d ∧ Lf (l ++ [d]) := by
  refine ⟨by simp [ntx_app, ntxL], fun c hc => ?_⟩; rcases List.mem_append.1 hc with hc | hc
  · exact hl c hc
  · rw [List.mem_singleton] at hc; subst hc; exact hd
 unfold pt; split
 · rename_i a x k e; split
   · rename_i hn; rcases List.eq_nil_or_concat l with rfl | ⟨o, c, rfl⟩
     · simp at e
     · simp only [List.concat_eq_append, List.getLast?_append, List.getLast?_singleton, Option.some_or, Option.some.injEq, List.dropLast_concat] at *; subst e; have hk : k = [] := hl (.mk [] a x k) (by simp) rfl; subst hk; have h2 := hd hn; cases d with
       | mk n' a' x' k' =>
         simp only [Nd.k] at h2; subst h2; refine ⟨by simp [ntx_app, ntxL, ntxN, Nd.x], fun c hc => ?_⟩; rcases List.mem_append.1 hc with hc | hc
         · exact hl c (List.mem_append_left _ hc)
         · rw [List.mem_singleton] at hc; subst hc; intro _; rfl
   · exact happ
 · exact happ
def ntxF : List (Nm × List Atr × List Nd) → List UInt8
 | [] => []
 | (_, _, k) :: f => ntxF f ++ ntxL k
def ntxS (s : St) : List UInt8 := ntxL s.1 ++ ntxF s.2
def LfF : List (Nm × List Atr × List Nd) → Prop
 | [] => True
 | (n, _, k) :: f => n ≠ [] ∧ Lf k ∧ LfF f
def LfS (s : St) : Prop := Lf s.1 ∧ LfF s.2
theorem put_txt {s : St} {d : Nd} (h : LfS s) (hd : d.n = [] → d.k = []) : ntxS (put s d) = ntxS s ++ ntxN d ∧ LfS (put s d) := by
 obtain ⟨r, f⟩ := s; cases f with
 | nil =>
   obtain ⟨e, g⟩ := ntx_pt r d h.1 hd; exact ⟨by simp [put, ntxS, ntxF, e], g, trivial⟩
 | cons c f =>
   obtain ⟨n, a, k⟩ := c; obtain ⟨e, g⟩ := ntx_pt k d h.2.2.1 hd; exact ⟨by simp [put, ntxS, ntxF, e], h.1, h.2.1, g, h.2.2.2⟩
theorem pop_txt {s : St} (h : LfS s) : ntxS (pop s) = ntxS s ∧ LfS (pop s) := by
 obtain ⟨r, f⟩ := s; cases f with
 | nil => exact ⟨rfl, h⟩
 | cons c f =>
   obtain ⟨n, a, k⟩ := c; obtain ⟨e, g⟩ := put_txt (s := (r, f)) (d := .mk n a [] k) ⟨h.1, h.2.2.2⟩ (fun e => absurd e h.2.1); refine ⟨?_, g⟩; rw [show pop (r, (n, a, k) :: f) = put (r, f) (.mk n a [] k) from rfl, e]; simp [ntxS, ntxF, ntxN]
theorem pops_txt (j : Nat) : ∀ {s : St}, LfS s → ntxS (pops j s) = ntxS s ∧ LfS (pops j s) := by
 induction j with
 | zero => intro s h; exact ⟨rfl, h⟩
 | succ j ih =>
   intro s h; obtain ⟨e1, g1⟩ := pop_txt h; obtain ⟨e2, g2⟩ := ih g1; exact ⟨by rw [pops_succ, e2, e1], g2⟩
theorem stp_txt {s : St} {t : Tok} (h : LfS s) (ht : tkE t = 0) : ntxS (stp s t) = ntxS s ++ t.2.2.2 ∧ LfS (stp s t) := by
 obtain ⟨hk, h1, h2⟩ := tkE_zero ht; unfold stp; by_cases e1 : t.1 = 1
 · rw [if_pos e1]; obtain ⟨e, g⟩ := put_txt (d := .mk [] [] t.2.2.2 []) h (fun _ => rfl); exact ⟨by rw [e]; simp [ntxN, ntxL], g⟩
 rw [if_neg e1]; obtain ⟨g1, g2, g3, g4⟩ := h2 e1; rw [g1, List.append_nil]; by_cases e2 : t.1 = 2
 · rw [if_pos e2]; obtain ⟨e, g⟩ := pops_txt (s.2.length - cls (nms s) t.2.1) h; unfold opn; split
   · exact ⟨e, g⟩
   split
   · obtain ⟨e', g'⟩ := put_txt (d := .mk t.2.1 t.2.2.1 [] []) g (fun _ => rfl); exact ⟨by rw [e', e]; simp [ntxN, ntxL], g'⟩
   · exact ⟨by rw [← e]; simp [ntxS, ntxF, ntxL], g.1, g3, fun c hc => by simp at hc, g.2⟩
 rw [if_neg e2]; split
 · split
   · exact pops_txt _ h
   · exact ⟨rfl, h⟩
 · exact ⟨rfl, h⟩
theorem foldl_txt (l : List Tok) : ∀ {s : St}, LfS s → (∀ t ∈ l, tkE t = 0) → ntxS (l.foldl stp s) = ntxS s ++ l.flatMap (·.2.2.2) ∧ LfS (l.foldl stp s) := by
 induction l with
 | nil => intro s h _; exact ⟨by simp, h⟩
 | cons t l ih =>
   intro s h ht; obtain ⟨e1, g1⟩ := stp_txt h (ht t (by simp)); obtain ⟨e2, g2⟩ := ih g1 (fun u hu => ht u (by simp [hu])); exact ⟨by rw [List.foldl_cons, e2, e1]; simp, g2⟩
def stopU (c : UInt8) : Bool := decide (c.toNat = 58) || decide (c.toNat = 47) || decide (c.toNat = 63) || decide (c.toNat = 35)
def okU (k : Nat) (c : UInt8) : Bool := ltr c || decide (k ≠ 0) && (decide (48 ≤ c.toNat) && decide (c.toNat ≤ 57) || decide (c.toNat = 43) || decide (c.toNat = 45) || decide (c.toNat = 46))
def okUs (s : List UInt8) : Bool := (List.range s.length).all fun k => okU k (s.getD k 0)
def schU (s : List UInt8) : Nat := match s.findIdx? stopU with
 | none => 0
 | some i => if s[i]? = some 58 ∧ okUs (s.take i) = true then i else 0
def sHttp : Nm := [104, 116, 116, 112]
def sHttps : Nm := [104, 116, 116, 112, 115]
def sMail : Nm := [109, 97, 105, 108, 116, 111]
def shrU (s : List UInt8) : List UInt8 := fold (s.filter fun c => decide (32 < c.toNat))
def prU (t : List UInt8) : List UInt8 := t.take (schU t)
def isU (s : List UInt8) : Bool := decide (prU (shrU s) = sHttp) || decide (prU (shrU s) = sHttps) || decide (prU (shrU s) = sMail)
def sA : Nm := [97]
def sHref : Nm := [104, 114, 101, 102]
def sTitle : Nm := [116, 105, 116, 108, 101]
def sSrc : Nm := [115, 114, 99]
def sAlt : Nm := [97, 108, 116]
def alwL : List Nm := [[97], [98], [105], [101, 109], [115, 116, 114, 111, 110, 103], [112], [98, 114], [104, 114], [117, 108], [111, 108], [108, 105], [98, 108, 111, 99, 107, 113, 117, 111, 116, 101], [99, 111, 100, 101], [105, 109, 103]]
def alwN (n : Nm) : Bool := alwL.contains n
def lnkN (n : Nm) : Bool := decide (n = sHref) || decide (n = sSrc)
def mayA (e n : Nm) : Bool := decide (e = sA) && (decide (n = sHref) || decide (n = sTitle)) || decide (e = sImg) && (decide (n = sSrc) || decide (n = sAlt))
def badA (e : Nm) (a : Atr) : Bool := !mayA e a.1 || lnkN a.1 && (!isU a.2 || decide (3000 < a.2.length))
def hasS (l : List Atr) : Bool := l.any fun a => decide (a.1 = sSrc)
mutual
def safN : Nd → Bool
 | .mk n a _ k => !(decide (n ≠ []) && (!alwN n || a.any (badA n) || decide (n = sImg) && !hasS a) || !safL k)
def safL : List Nd → Bool
 | [] => true
 | d :: l => safN d && safL l
end
def stayU (s : List UInt8) : Bool := decide (s.length ≤ 3000) && (safL (ofM (TokL s)) && decide (tksW (fltL (ofM (TokL s))) = s))
abbrev Ent := Nm × Nm × Nm × Int × Nm
def eI (x : Ent) : Nm := x.1
def eT (x : Ent) : Nm := x.2.1
def eL (x : Ent) : Nm := x.2.2.1
def eA (x : Ent) : Int := x.2.2.2.1
def eH (x : Ent) : Nm := x.2.2.2.2
def chkE (x : Ent) : Int :=
 if eI x = [] then 1
 else if 60 < (eI x).length ∨ 3000 < (eT x).length ∨ 3000 < (eL x).length ∨ 3000 < (eH x).length then 2
 else if eA x < 0 ∨ 4102444799 < eA x then 3
 else if (eL x ≠ [] ∧ isU (eL x) = false) ∨ stayU (eH x) = false then 4
 else 0
def cmpT (a b : Nm) : Int := Lib.compareBytes a b
def ordE (a b : Ent) : Int := if eA a ≠ eA b then eA b - eA a else cmpT (eI a) (eI b)
def stE (seen : List Ent) (x : Ent) : Int :=
 if chkE x ≠ 0 then chkE x
 else if (seen.any fun y => decide (eI y = eI x)) = true then 6
 else if (seen.getLast?.any fun p => decide (0 ≤ ordE p x)) = true then 4
 else 0
def enG (seen : List Ent) : List Ent → Int
 | [] => 0
 | x :: r => if stE seen x ≠ 0 then stE seen x else enG (seen ++ [x]) r
def rdT1 (p : Option Nm) (s : Nm) : Int :=
 if s = [] then 1 else if 60 < s.length then 2 else if (p.any fun q => !Op.bytesLess q s) = true then 4 else 0
def rdG (p : Option Nm) : List Nm → Int
 | [] => 0
 | s :: r => if rdT1 p s ≠ 0 then rdT1 p s else rdG (some s) r
abbrev Shf := List Ent × List Nm
def ckS (s : Shf) : Int :=
 if 20 < s.1.length ∨ 40 < s.2.length then 2
 else if enG [] s.1 ≠ 0 then enG [] s.1
 else rdG none s.2
def plE (l : List Ent) (i : Nm) : Option Nat := l.findIdx? fun x => decide (eI x = i)
def bsE (l : List Ent) (x : Ent) : Nat := Lib.bsGo (fun t => decide (ordE (l.getD t default) x < 0)) l.length 0 l.length
def insA {α : Type} (l : List α) (i : Nat) (x : α) : List α := l.take i ++ x :: l.drop i
def delA {α : Type} (l : List α) (i : Nat) : List α := l.take i ++ l.drop (i + 1)
def insE (l : List Ent) (x : Ent) : List Ent := insA l (bsE l x) x
def putE (l : List Ent) (x : Ent) : List Ent := match plE l (eI x) with
 | some i => if eA x < eA (l.getD i default) then l else insE (delA l i) x
 | none => insE l x
def enC (l : List Ent) : Int := match l.find? fun x => decide (chkE x ≠ 0) with | some x => chkE x | none => 0
def putC (s : Shf) (l : List Ent) : Int := if ckS s ≠ 0 then ckS s else if 12 < l.length then 2 else enC l
def putL (s : Shf) (l : List Ent) : List Ent := (l.foldl putE s.1).take 20
def putN (s : Shf) (l : List Ent) : Int := ((putL s l).filter fun x => !s.1.contains x).length
def bsT (l : List Nm) (i : Nm) : Nat := Lib.bsGo (fun t => Op.bytesLess (l.getD t []) i) l.length 0 l.length
def fnT (l : List Nm) (i : Nm) : Bool := decide (bsT l i < l.length ∧ l.getD (bsT l i) [] = i)
def mkC (s : Shf) (i : Nm) (b : Bool) : Int :=
 if ckS s ≠ 0 then ckS s else if plE s.1 i = none then 5 else if b = true ∧ fnT s.2 i = false ∧ s.2.length = 40 then 2 else 0
def mkR (s : Shf) (i : Nm) (b : Bool) : List Nm :=
 if b = true then (if fnT s.2 i then s.2 else insA s.2 (bsT s.2 i) i) else (if fnT s.2 i then delA s.2 (bsT s.2 i) else s.2)
def drL (s : Shf) : List Ent := s.1.filter fun x => !fnT s.2 (eI x)
def unL (s : Shf) : List Nm := (drL s).map eI
end Go.Proofs.YtamdlihgecpbkaaGreatDoor

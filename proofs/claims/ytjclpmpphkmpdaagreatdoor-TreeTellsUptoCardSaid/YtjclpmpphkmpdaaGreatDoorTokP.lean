/- Tokens: step. -/
import Derived.Test.YtjclpmpphkmpdaaGreatDoorTokM
namespace Go.Proofs.YtjclpmpphkmpdaaGreatDoor
open Go.RowKit

/-- One step: none: something has no end; else what is left, the text, what has come out. -/
def stP (t x : List UInt8) (l : List Tok) : Option (List UInt8 × List UInt8 × List Tok) :=
  match t with
  | [] => some ([], x, l)
  | c :: r =>
    if c = 60 then match tagP r with
      | none => some (r, x ++ [60], l)
      | some none => none
      | some (some (none, u)) => some (u, x, l)
      | some (some (some k, u)) => if isNm k.2.1 then some (u, [], flsh x l ++ [k]) else some (u, x, l)
    else some ((c :: r).dropWhile not60, x ++ (c :: r).takeWhile not60, l)
theorem not60_iff (c : UInt8) : not60 c = true ↔ c ≠ 60 := by
  have h1 : c.toNat = 60 ↔ c = 60 := ⟨fun h => UInt8.toNat_inj.1 h, fun h => by rw [h]; rfl⟩
  simp [not60, h1]
theorem tw_not60 (t : List UInt8) : 60 ∉ t.takeWhile not60 := by
  intro h
  have := mem_tw h
  exact absurd this (by decide)
theorem tkP_st (t x : List UInt8) (l : List Tok) (ht : t ≠ []) : tkP t x l = (match stP t x l with | none => flsh (x ++ t) l | some (u, x', l') => tkP u x' l') := by
  cases t with
  | nil => exact absurd rfl ht
  | cons c r =>
    unfold stP
    simp only []
    by_cases hc : c = 60
    · subst hc
      rw [if_pos rfl]
      cases h : tagP r with
      | none => exact tkP_lone r x l h
      | some o =>
        cases o with
        | none => exact tkP_open r x l h
        | some p =>
          obtain ⟨k, u⟩ := p
          cases k with
          | none => exact tkP_skip r u x l h
          | some k =>
            simp only []
            cases hn : isNm k.2.1
            · simp only [Bool.false_eq_true, if_false]; exact tkP_tagno r u x k l h hn
            · simp only [if_true]; exact tkP_tag r u x k l h hn
    · rw [if_neg hc]
      have := tkP_run ((c :: r).takeWhile not60) ((c :: r).dropWhile not60) x l (tw_not60 _)
      rw [List.takeWhile_append_dropWhile] at this
      exact this
/-- A tag has two bytes at least behind its <. -/
theorem tagP_len2 (t : List UInt8) (k : Tok) (r : List UInt8) (h : tagP t = some (some (some k, r))) : r.length + 2 ≤ t.length := by
  cases t with
  | nil => cases h
  | cons c s =>
    rw [tagP_cons] at h
    split at h
    · rename_i hc
      cases e : atP ((c :: s).dropWhile tch) [] with
      | none => rw [e] at h; simp at h
      | some x =>
        rw [e] at h
        simp only [Option.map_some, Option.some.injEq, Prod.mk.injEq] at h
        obtain ⟨_, rfl⟩ := h
        have h1 := atF_len _ _ _ _ _ e
        have hw : tch c = true := by
          have : (97 ≤ c.toNat ∧ c.toNat ≤ 122) ∨ (65 ≤ c.toNat ∧ c.toNat ≤ 90) := by
            simp only [ltr, lwr, Bool.or_eq_true, Bool.and_eq_true, decide_eq_true_eq] at hc; omega
          simp [tch, wht]; omega
        rw [List.dropWhile_cons_of_pos hw] at h1
        have h2 := dw_len (p := tch) s
        simp only [List.length_cons]; omega
    split at h
    · rename_i hc
      cases e : cutS [62] (s.dropWhile tch) with
      | none => rw [e] at h; simp at h
      | some x =>
        rw [e] at h
        simp only [Option.map_some, Option.some.injEq, Prod.mk.injEq] at h
        obtain ⟨_, rfl⟩ := h
        have h1 := cutS_len [62] (by simp) _ _ e
        have h2 := dw_len (p := tch) s
        simp only [List.length_cons]; omega
    split at h
    · cases e : cutS [45, 45, 62] s with
      | none => rw [e] at h; simp at h
      | some x => rw [e] at h; simp at h
    split at h
    · cases e : cutS [62] (c :: s) with
      | none => rw [e] at h; simp at h
      | some x => rw [e] at h; simp at h
    · cases h
theorem stP_len (t x : List UInt8) (l : List Tok) (ht : t ≠ []) (u x' : List UInt8) (l' : List Tok) (h : stP t x l = some (u, x', l')) : u.length < t.length ∧ x'.length + u.length ≤ x.length + t.length ∧ l'.length + u.length ≤ l.length + t.length := by
  cases t with
  | nil => exact absurd rfl ht
  | cons c r =>
    unfold stP at h
    simp only [] at h
    have hfl : (flsh x l).length ≤ l.length + 1 := by unfold flsh; split <;> simp
    split at h
    · cases e : tagP r with
      | none =>
        rw [e] at h; simp only [Option.some.injEq, Prod.mk.injEq] at h; obtain ⟨rfl, rfl, rfl⟩ := h
        simp; omega
      | some o =>
        rw [e] at h
        cases o with
        | none => simp at h
        | some p =>
          obtain ⟨k, u'⟩ := p
          have hl := tagP_len _ _ _ e
          cases k with
          | none =>
            simp only [Option.some.injEq, Prod.mk.injEq] at h; obtain ⟨rfl, rfl, rfl⟩ := h
            simp only [List.length_cons]; omega
          | some k =>
            simp only [] at h
            have hl2 := tagP_len2 _ _ _ e
            split at h
            · simp only [Option.some.injEq, Prod.mk.injEq] at h; obtain ⟨rfl, rfl, rfl⟩ := h
              simp only [List.length_cons, List.length_append, List.length_nil]; omega
            · simp only [Option.some.injEq, Prod.mk.injEq] at h; obtain ⟨rfl, rfl, rfl⟩ := h
              simp only [List.length_cons]; omega
    · rename_i hc
      simp only [Option.some.injEq, Prod.mk.injEq] at h; obtain ⟨rfl, rfl, rfl⟩ := h
      have h1 := congrArg List.length (List.takeWhile_append_dropWhile (p := not60) (l := c :: r))
      have h2 : (c :: r).takeWhile not60 = c :: r.takeWhile not60 := by rw [List.takeWhile_cons, if_pos ((not60_iff c).2 hc)]
      rw [List.length_append] at h1
      rw [h2] at h1 ⊢
      simp only [List.length_cons, List.length_append] at h1 ⊢
      omega

theorem pre_one (p : UInt8) (q r : List UInt8) : pre (p :: q) (p :: r) = pre q r := by simp [pre]
theorem pre_ne {p c : UInt8} (q r : List UInt8) (h : c ≠ p) : pre (p :: q) (c :: r) = false := by
  have : (p == c) = false := beq_false_of_ne (Ne.symm h)
  simp only [pre, List.isPrefixOf, this, Bool.false_and]
theorem Bl.to_below {w w' : World} (h : Bl w w') (b : Nat) (hb : b ≤ w.heap.size) : Below b w w' := Below.mono h hb
def opR (r x : List UInt8) (l : List Tok) : Option (List UInt8 × List UInt8 × List Tok) := (atP (r.dropWhile tch) []).map fun y => if isNm (fold (r.takeWhile tch)) then (y.2, [], flsh x l ++ [(2, fold (r.takeWhile tch), y.1, [])]) else (y.2, x, l)
def clR (r x : List UInt8) (l : List Tok) : Option (List UInt8 × List UInt8 × List Tok) := (cutS [62] (r.dropWhile tch)).map fun u => if isNm (fold (r.takeWhile tch)) then (u, [], flsh x l ++ [(3, fold (r.takeWhile tch), [], [])]) else (u, x, l)

theorem letter1 (b : Nat) (s t x : List UInt8) (v : Value) (w : World) (hR : Rr w b s t x v) (hs : s.length ≤ 1099511627776) :
    Calls Tryz.prog 70 #[.pointer (some ⟨b, 0, none⟩), .int .i64 1] w fun e w' => e = .returned (.bool (hd ltr (t.drop 1))) ∧ Qt w w' := letterAt_r 1 (by omega) b s t x v w hR hs
theorem letter2 (b : Nat) (s t x : List UInt8) (v : Value) (w : World) (hR : Rr w b s t x v) (hs : s.length ≤ 1099511627776) :
    Calls Tryz.prog 70 #[.pointer (some ⟨b, 0, none⟩), .int .i64 2] w fun e w' => e = .returned (.bool (hd ltr (t.drop 2))) ∧ Qt w w' := letterAt_r 2 (by omega) b s t x v w hR hs
set_option maxRecDepth 100000 in
set_option maxHeartbeats 4000000 in
theorem step_text (b : Nat) (s t x : List UInt8) (l : List Tok) (v : Value) (w : World) (hR : Rr w b s t x v) (hT : TkO w (b + 1) v l) (hs : s.length ≤ 1073741824) (hx : x.length ≤ 1073741824) (h1 : pre [60] t = false) :
    Calls Tryz.prog 62 #[.pointer (some ⟨b, 0, none⟩)] w fun e w' => StEnd w b s x l (some (t.dropWhile not60, x ++ t.takeWhile not60, l)) e w' := by
  have hbw := hR.rk.lt
  have BG := Lib.hid (fun p W h => begins_r p b s t x v W h (by omega))
  have hRq := hR
  have hQ := Bl.refl w
  have hxl : (t.takeWhile not60).length ≤ s.length := Nat.le_trans (List.takeWhile_prefix _).length_le hR.len
  have PC := Lib.hid (fun W h => pass_r _ not60 do_s1 b s t x v W h (by omega))
  go_enter Tryz.func62, Tryz.ntmps62
  go_wp2_with (first | (go_at_call 67; refine (BG.out _ _ hRq).mono ?_; rintro e wq ⟨rfl, hqq⟩; replace hRq := hRq.of_bl hqq.bl; replace hQ := hQ.trans hqq.bl))
  obtain ⟨a0, a1, a2, a3, f0, f1, f2, f3⟩ := hRq.rk.cells
  go_region_with (first | (go_at_call 68; (with_reducible refine (PC.out _ (hRq.of_bl (by repeat (first | exact Bl.refl _ | refine Bl.drew ?_ | refine Bl.alloc ?_ _)))).mono ?_); rintro e w1 ⟨rfl, hR1, hg1⟩; clear a0 a1 a2 a3 f0 f1 f2 f3; obtain ⟨a0, a1, a2, a3, f0, f1, f2, f3⟩ := hR1.rk.cells))
  all_goals
    go_wp2
    go_end0
    have hgw := gb_set (gb_trans (gb_bl (b := some b) (hQ.trans (by repeat (first | exact Bl.refl _ | refine Bl.drew ?_ | refine Bl.alloc ?_ _)))) hg1) 2 (.string ⟨(x ++ t.takeWhile not60).toArray⟩)
    exact ⟨below_gb hgw (Nat.le_refl _) (Nat.le_of_lt hbw), FrT.of_gb hgw, rfl, v, ⟨hR1.rk.set2 _, hR1.sf⟩, hT.of_gb hgw (Nat.lt_succ_self _)⟩


set_option maxRecDepth 100000 in
set_option maxHeartbeats 4000000 in
theorem step_lone (b : Nat) (s t x : List UInt8) (l : List Tok) (v : Value) (w : World) (hR : Rr w b s t x v) (hT : TkO w (b + 1) v l) (hs : s.length ≤ 1073741824) (hx : x.length ≤ 1073741824) (_hl : l.length ≤ 1073741823) (_hE : ES w) (_hbE : 1 < b) (_hM : ML w) (_hbM : 0 < b) (c : UInt8) (r : List UInt8) (HT : Hid (t = c :: r))
    (h1 : pre [60] t = true) (h2 : pre [60, 47] t = false) (h3 : pre [60, 33, 45, 45] t = false) (h4 : pre [60, 33] t = false) (h5 : pre [60, 63] t = false) (h6 : hd ltr (List.drop 1 t) = false) :
    Calls Tryz.prog 62 #[.pointer (some ⟨b, 0, none⟩)] w fun e w' => StEnd w b s x l (some (r, x ++ [60], l)) e w' := by
  have hbw := hR.rk.lt
  have BG := Lib.hid (fun p W h => begins_r p b s t x v W h (by omega))
  have L1 := Lib.hid (fun W h => letter1 b s t x v W h (by omega))
  have L2 := Lib.hid (fun W h => letter2 b s t x v W h (by omega))
  have hRq := hR
  have hQ := Bl.refl w
  rw [List.drop_one] at h6 L1
  obtain ⟨K, hK⟩ : ∃ K, s.length - (c :: r).length = K := ⟨_, rfl⟩
  have HK := Lib.hid (show s.length - t.length = K by rw [HT.out]; exact hK)
  have hlc := hR.len
  rw [HT.out] at hlc
  have hKb : (K : Int) + 1 ≤ (s.length : Int) := by simp only [List.length_cons] at hK hlc; omega
  have HSK := Lib.hid (fun W (h : Rr W b s t (x ++ [60]) v) => (HT.out ▸ h : Rr W b s (c :: r) (x ++ [60]) v).skip hK)
  clear hK hlc
  go_enter Tryz.func62, Tryz.ntmps62
  go_wp2_with (first | (go_at_call 67; (with_reducible refine (BG.out _ _ hRq).mono ?_); rintro e wq ⟨rfl, hqq⟩; replace hRq := hRq.of_bl hqq.bl; replace hQ := hQ.trans hqq.bl; have hRTq : RT _ b s t x l := ⟨v, hRq, hT.of_bl hQ⟩; (try clear a0 a1 a2 a3 f0 f1 f2 f3); obtain ⟨a0, a1, a2, a3, f0, f1, f2, f3⟩ := hRq.rk.cells; rw [HK.out] at a1) | (go_at_call 70; (with_reducible refine (L1.out _ hRq).mono ?_); rintro e wq ⟨rfl, hqq⟩; replace hRq := hRq.of_bl hqq.bl; replace hQ := hQ.trans hqq.bl; have hRTq : RT _ b s t x l := ⟨v, hRq, hT.of_bl hQ⟩; (try clear a0 a1 a2 a3 f0 f1 f2 f3); obtain ⟨a0, a1, a2, a3, f0, f1, f2, f3⟩ := hRq.rk.cells; rw [HK.out] at a1) | (go_at_call 70; (with_reducible refine (L2.out _ hRq).mono ?_); rintro e wq ⟨rfl, hqq⟩; replace hRq := hRq.of_bl hqq.bl; replace hQ := hQ.trans hqq.bl; have hRTq : RT _ b s t x l := ⟨v, hRq, hT.of_bl hQ⟩; (try clear a0 a1 a2 a3 f0 f1 f2 f3); obtain ⟨a0, a1, a2, a3, f0, f1, f2, f3⟩ := hRq.rk.cells; rw [HK.out] at a1))
  go_end0
  have hR2 : Rr _ b s t (x ++ [60]) v := ⟨hRq.rk.set2 (x ++ [60]), hRq.sf⟩
  have hgw := gb_set (gb_set (gb_bl (b := some b) hQ) 2 (.string ⟨(x ++ [60]).toArray⟩)) 1 (.int .i64 ((K : Int) + 1))
  exact ⟨below_gb hgw (Nat.le_refl _) (Nat.le_of_lt hbw), FrT.of_gb hgw, rfl, v, HSK.out _ hR2, hT.of_gb hgw (Nat.lt_succ_self _)⟩

end Go.Proofs.YtjclpmpphkmpdaaGreatDoor

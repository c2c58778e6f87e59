/- Words: the reference: WordsOf. · Shelves: the reference: CheckEntry. · Shelves: the reference: CheckShelf. -/
import Derived.Test.YtamdlihgecpbkaaGreatDoorFdJ
import Derived.Test.YtamdlihgecpbkaaGreatDoorSrC
import Derived.Test.YtamdlihgecpbkaaGreatDoorGrpP
import Derived.Test.YtamdlihgecpbkaaGreatDoorGrpQ
import Derived.Test.YtamdlihgecpbkaaGreatDoorGrpS
set_option maxRecDepth 100000
set_option maxHeartbeats 8000000
namespace Go.Proofs.YtamdlihgecpbkaaGreatDoor
open Go.RowKit
theorem wsG_len (l : List UInt8) : ∀ st : List UInt8 × Bool, (wsG l st).length ≤ st.1.length + 2 * l.length := by
 induction l with
 | nil => intro st; simp [wsG]
 | cons c l ih =>
   intro st; rw [wsG]; split
   · have := ih (st.1, true); simp only [List.length_cons] at this ⊢; omega
   · have := ih ((if st.2 = true ∧ st.1 ≠ [] then st.1 ++ [32] else st.1) ++ [c], false); by_cases h : st.2 = true ∧ st.1 ≠ []
     · rw [if_pos h] at this ⊢; simp only [List.length_append, List.length_cons, List.length_nil] at this ⊢; omega
     · rw [if_neg h] at this ⊢; simp only [List.length_append, List.length_cons, List.length_nil] at this ⊢; omega
theorem wsG_le (l : List UInt8) : ∀ st : List UInt8 × Bool, st.1.length ≤ (wsG l st).length := by
 induction l with
 | nil => intro st; simp [wsG]
 | cons c l ih =>
   intro st; rw [wsG]; split
   · exact ih (st.1, true)
   · have := ih ((if st.2 = true ∧ st.1 ≠ [] then st.1 ++ [32] else st.1) ++ [c], false); by_cases h : st.2 = true ∧ st.1 ≠ []
     · rw [if_pos h] at this ⊢; simp only [List.length_append, List.length_cons, List.length_nil] at this ⊢; omega
     · rw [if_neg h] at this ⊢; simp only [List.length_append, List.length_cons, List.length_nil] at this ⊢; omega
theorem wordsOfR_c (s : List UInt8) (hs : s.length ≤ 3000) (w : World) :
 Calls Tryz.prog 12 #[.string ⟨s.toArray⟩] w fun e w' => e = .returned (.string ⟨(wdU s).toArray⟩) ∧ Bl w w' := by
 have h0 := TokL_ck s hs; have hsz := TokL_sum s; have hwt := wt_ofM (TokL s); have hsl := spL_wt (ofM (TokL s)); have HR := Lib.hid (wd_ref s hs); have TC := Lib.hid (fun W => treeOfR_c s hs W); have SC := Lib.hid (fun v P W (h : NdS W P v (ofM (TokL s))) => spacedR_c 1000000 (ofM (TokL s)) v P W (by omega) (by omega) h); obtain ⟨l, hl⟩ : ∃ l, l = spL (ofM (TokL s)) := ⟨_, rfl⟩; have hlb : l.length ≤ 1000000 := by rw [hl]; omega
 rw [← hl] at SC HR; clear h0 hsz hwt hsl hs hl; go_enter Tryz.func12, Tryz.ntmps12; go_wp2_with (first | (go_at_call 35; (with_reducible refine (TC.out _).mono ?_); rintro e w1 ⟨v1, rfl, ⟨Q1, hN1⟩, hb1⟩) | (go_at_call 34; (with_reducible refine (SC.out _ _ _ hN1).mono ?_); rintro e w2 ⟨rfl, hb2⟩)); have hW := hb1.trans hb2; clear hN1; go_loopw [4, 5, 6] (fun o b i wr => ∃ (k : Nat) (out : List UInt8) (bl : Bool), k ≤ l.length ∧ i = .int .i64 k ∧ o = .string ⟨out.toArray⟩ ∧ b = .bool bl ∧ Hid (wsG l ([], false) = wsG (l.drop k) (out, bl)) ∧ w2 = wr) (fun _ _ i _ => l.length - (intOf i).toNat); case atStart => exact ⟨0, [], false, Nat.zero_le _, rfl, rfl, rfl, Lib.hid (by rw [List.drop_zero]), rfl⟩
 case round =>
  obtain ⟨k, out, bl, hk, rfl, rfl, rfl, HP, rfl⟩ := hrel; by_cases hlt : k < l.length
  · have HD := Lib.hid (show wsG l ([], false) = if wht l[k] = true then wsG (l.drop (k + 1)) (out, true) else wsG (l.drop (k + 1)) ((if bl = true ∧ out ≠ [] then out ++ [32] else out) ++ [l[k]], false) by
     rw [HP.out, List.drop_eq_getElem_cons hlt, wsG])
    have hol : out.length ≤ 2000000 := by
     have h1 := wsG_le (l.drop k) (out, bl); have h2 := wsG_len l ([], false); rw [HP.out] at h2; simp only [List.length_nil] at h1 h2; omega
    have WC := Lib.hid (fun W => isWhite_c l[k] W); cases hw : wht l[k]
    · rw [hw] at WC HD; simp only [Bool.false_eq_true, if_false] at HD; have hsl : (l.drop k).take 1 = [l[k]] := by rw [List.drop_eq_getElem_cons hlt]; rfl
      have HSL := Lib.hid hsl; clear hw hsl; cases bl
      · simp only [Bool.false_eq_true, false_and, if_false] at HD; go_wp2_with (go_at_call 36; (with_reducible refine (WC.out _).mono ?_); rintro e w6 ⟨rfl, rfl⟩); go_roundw; case rel => exact ⟨k + 1, _, _, by omega, by go_num, rfl, rfl, Lib.hid (by rw [HD.out]; simp [HSL.out]), by trivial⟩
        case measure => simp [intOf]; omega
      · by_cases ho : out = []
        · subst ho; simp only [ne_eq, not_true_eq_false, and_false, if_false, List.nil_append] at HD; go_wp2_with (go_at_call 36; (with_reducible refine (WC.out _).mono ?_); rintro e w6 ⟨rfl, rfl⟩); go_roundw; case rel => exact ⟨k + 1, _, _, by omega, by go_num, rfl, rfl, Lib.hid (by rw [HD.out]; simp [HSL.out]), by trivial⟩
          case measure => simp [intOf]; omega
        · have hoe := emp ho; rw [if_pos ⟨rfl, ho⟩] at HD; clear ho; go_wp2_with (go_at_call 36; (with_reducible refine (WC.out _).mono ?_); rintro e w6 ⟨rfl, rfl⟩); go_roundw; case rel => exact ⟨k + 1, _, _, by omega, by go_num, rfl, rfl, Lib.hid (by rw [HD.out]; simp [HSL.out]), by trivial⟩
          case measure => simp [intOf]; omega
    · rw [hw] at WC HD; simp only [if_true] at HD; clear hw; go_wp2_with (go_at_call 36; (with_reducible refine (WC.out _).mono ?_); rintro e w6 ⟨rfl, rfl⟩); go_roundw; case rel => exact ⟨k + 1, _, _, by omega, by go_num, rfl, rfl, HD, by trivial⟩
      case measure => simp [intOf]; omega
  · have HE := Lib.hid (show wsG l ([], false) = out by rw [HP.out, List.drop_of_length_le (by omega), wsG]); go_wp2; go_ret; exact ⟨by rw [HR.out, HE.out]; rfl, hW⟩
theorem chkER_c (x : Ent) (w : World) :
 Calls Tryz.prog 10 #[enV x] w fun e w' => e = .returned (.int .i64 (chkE x)) ∧ Bl w w' := by
 have hB0 := B5.new w x 23; have hb0 : Bl w (w.alloc (enO x 23)) := (Bl.refl _).alloc _; have HL := Lib.hid (fun s W => isLongR_c s W); unfold enO at hB0 hb0; unfold enV; by_cases h1 : eI x = []
 · have HR := Lib.hid (chkE_no h1); rw [h1] at hB0 hb0 ⊢; clear h1; go_enter Tryz.func10, Tryz.ntmps10; go_wp2; go_ret; exact ⟨ret_int (by rw [HR.out]), hb0⟩
 · have h1' : ((eI x).isEmpty) = false := by cases e : eI x <;> simp_all
   by_cases h2 : 60 < (eI x).length
   · have HR := Lib.hid (chkE_many h1 (.inl h2)); have h2' : (60 : Int) < ((eI x).length : Int) := by omega
     clear h1 h2; go_enter Tryz.func10, Tryz.ntmps10; go_wp2; go_ret; exact ⟨ret_int (by rw [HR.out]), hb0⟩
   · have h2' : ¬ (60 : Int) < ((eI x).length : Int) := by omega
     have TC := Lib.hid (fun W => isLongR_c (eT x) W); have LC := Lib.hid (fun W => isLongR_c (eL x) W); have HC := Lib.hid (fun W => isLongR_c (eH x) W); by_cases h3 : 3000 < (eT x).length ∨ 3000 < (eL x).length ∨ 3000 < (eH x).length
     · have HR := Lib.hid (chkE_many h1 (.inr h3)); cases k3 : decide (3000 < (eT x).length) with
       | true =>
         rw [k3] at TC; clear h1 h2 h3 k3; go_enter Tryz.func10, Tryz.ntmps10; go_wp2_with (go_at_call 27; (with_reducible refine (TC.out _).mono ?_); rintro e w1 ⟨rfl, rfl⟩); go_ret; exact ⟨ret_int (by rw [HR.out]), hb0⟩
       | false =>
         cases k4 : decide (3000 < (eL x).length) with
         | true =>
           rw [k3] at TC; rw [k4] at LC; clear h1 h2 h3 k3 k4; go_enter Tryz.func10, Tryz.ntmps10; go_wp2_with (first | (go_at_call 27; (with_reducible refine (TC.out _).mono ?_); rintro e w1 ⟨rfl, rfl⟩) | (go_at_call 27; (with_reducible refine (LC.out _).mono ?_); rintro e w1 ⟨rfl, rfl⟩)); go_ret; exact ⟨ret_int (by rw [HR.out]), hb0⟩
         | false =>
           have k5 : decide (3000 < (eH x).length) = true := by simp only [decide_eq_false_iff_not] at k3 k4; exact decide_eq_true (by omega)
           rw [k3] at TC; rw [k4] at LC; rw [k5] at HC; clear h1 h2 h3 k3 k4 k5; go_enter Tryz.func10, Tryz.ntmps10; go_wp2_with (first | (go_at_call 27; (with_reducible refine (TC.out _).mono ?_); rintro e w1 ⟨rfl, rfl⟩) | (go_at_call 27; (with_reducible refine (LC.out _).mono ?_); rintro e w1 ⟨rfl, rfl⟩) | (go_at_call 27; (with_reducible refine (HC.out _).mono ?_); rintro e w1 ⟨rfl, rfl⟩)); go_ret; exact ⟨ret_int (by rw [HR.out]), hb0⟩
     · have h23 : ¬ (60 < (eI x).length ∨ 3000 < (eT x).length ∨ 3000 < (eL x).length ∨ 3000 < (eH x).length) := by omega
       rw [decide_eq_false (by omega)] at TC LC HC; by_cases h4 : eA x < 0 ∨ 4102444799 < eA x
       · have HR := Lib.hid (chkE_range h1 h23 h4); have BC := Lib.hid (fun W => between_c (eA x) 0 4102444799 W); rw [show (decide ((0 : Int) ≤ eA x) && decide (eA x ≤ 4102444799)) = false by rw [Bool.and_eq_false_iff, decide_eq_false_iff_not, decide_eq_false_iff_not]; omega] at BC; clear h1 h2 h3 h23; by_cases h5 : eA x < 0
         · clear h4; go_enter Tryz.func10, Tryz.ntmps10; go_wp2_with (first | (go_at_call 27; (with_reducible refine (TC.out _).mono ?_); rintro e w1 ⟨rfl, rfl⟩) | (go_at_call 27; (with_reducible refine (LC.out _).mono ?_); rintro e w1 ⟨rfl, rfl⟩) | (go_at_call 27; (with_reducible refine (HC.out _).mono ?_); rintro e w1 ⟨rfl, rfl⟩) | (go_at_call 28; (with_reducible refine (BC.out _).mono ?_); rintro e w8 ⟨rfl, rfl⟩)); go_ret; exact ⟨ret_int (by rw [HR.out]), hb0⟩
         · have h6 : 4102444799 < eA x := by omega
           clear h4; go_enter Tryz.func10, Tryz.ntmps10; go_wp2_with (first | (go_at_call 27; (with_reducible refine (TC.out _).mono ?_); rintro e w1 ⟨rfl, rfl⟩) | (go_at_call 27; (with_reducible refine (LC.out _).mono ?_); rintro e w1 ⟨rfl, rfl⟩) | (go_at_call 27; (with_reducible refine (HC.out _).mono ?_); rintro e w1 ⟨rfl, rfl⟩) | (go_at_call 28; (with_reducible refine (BC.out _).mono ?_); rintro e w8 ⟨rfl, rfl⟩)); go_ret; exact ⟨ret_int (by rw [HR.out]), hb0⟩
       · have HR := Lib.hid (chkE_state h1 h23 h4); have BC := Lib.hid (fun W => between_c (eA x) 0 4102444799 W); rw [show (decide ((0 : Int) ≤ eA x) && decide (eA x ≤ 4102444799)) = true by rw [Bool.and_eq_true, decide_eq_true_eq, decide_eq_true_eq]; omega] at BC; have h5 : ¬ eA x < 0 := by omega
         have h6 : ¬ 4102444799 < eA x := by omega
         have IC := Lib.hid (fun W => isSafe_c (eL x) (by omega) W); have SC := Lib.hid (fun W => doesStay_c (eH x) W); clear h1 h2 h3 h23 h4; by_cases h7 : eL x = []
         · have HR2 := Lib.hid (show chkE x = if stayU (eH x) = false then 4 else 0 by rw [HR.out]; simp [h7]); rw [h7] at hB0 hb0 LC ⊢; clear h7; cases k : stayU (eH x) <;>
           · rw [k] at SC HR2; clear k; go_enter Tryz.func10, Tryz.ntmps10; go_wp2_with (first | (go_at_call 27; (with_reducible refine (TC.out _).mono ?_); rintro e w1 ⟨rfl, rfl⟩) | (go_at_call 27; (with_reducible refine (LC.out _).mono ?_); rintro e w1 ⟨rfl, rfl⟩) | (go_at_call 27; (with_reducible refine (HC.out _).mono ?_); rintro e w1 ⟨rfl, rfl⟩) | (go_at_call 28; (with_reducible refine (BC.out _).mono ?_); rintro e w8 ⟨rfl, rfl⟩) | (go_at_call 30; (with_reducible refine (SC.out _).mono ?_); rintro e w2 ⟨rfl, hb2⟩)); go_ret; exact ⟨ret_int (by rw [HR2.out]; rfl), hb0.trans hb2⟩
         · have h7' : ((eL x).isEmpty) = false := by cases e : eL x <;> simp_all
           have HNE := Lib.hid h7; clear h7; cases k8 : isU (eL x) with
           | false =>
             have HR2 := Lib.hid (show chkE x = 4 by rw [HR.out, if_pos (.inl ⟨HNE.out, k8⟩)]); rw [k8] at IC; clear k8; go_enter Tryz.func10, Tryz.ntmps10; go_wp2_with (first | (go_at_call 27; (with_reducible refine (TC.out _).mono ?_); rintro e w1 ⟨rfl, rfl⟩) | (go_at_call 27; (with_reducible refine (LC.out _).mono ?_); rintro e w1 ⟨rfl, rfl⟩) | (go_at_call 27; (with_reducible refine (HC.out _).mono ?_); rintro e w1 ⟨rfl, rfl⟩) | (go_at_call 28; (with_reducible refine (BC.out _).mono ?_); rintro e w8 ⟨rfl, rfl⟩) | (go_at_call 29; (with_reducible refine (IC.out _).mono ?_); rintro e w2 ⟨rfl, hb2⟩)); go_ret; exact ⟨ret_int (by rw [HR2.out]), hb0.trans hb2⟩
           | true =>
             have HR2 := Lib.hid (show chkE x = if stayU (eH x) = false then 4 else 0 by rw [HR.out, k8]; simp); rw [k8] at IC; clear k8; cases k : stayU (eH x) <;>
             · rw [k] at SC HR2; clear k; go_enter Tryz.func10, Tryz.ntmps10; go_wp2_with (first | (go_at_call 27; (with_reducible refine (TC.out _).mono ?_); rintro e w1 ⟨rfl, rfl⟩) | (go_at_call 27; (with_reducible refine (LC.out _).mono ?_); rintro e w1 ⟨rfl, rfl⟩) | (go_at_call 27; (with_reducible refine (HC.out _).mono ?_); rintro e w1 ⟨rfl, rfl⟩) | (go_at_call 28; (with_reducible refine (BC.out _).mono ?_); rintro e w8 ⟨rfl, rfl⟩) | (go_at_call 29; (with_reducible refine (IC.out _).mono ?_); rintro e w2 ⟨rfl, hb2⟩; obtain ⟨l2, c0, c1, c2, c3, c4⟩ := hB0.of_bl hb2) | (go_at_call 30; (with_reducible refine (SC.out _).mono ?_); rintro e w3 ⟨rfl, hb3⟩)); go_ret; exact ⟨ret_int (by rw [HR2.out]; rfl), (hb0.trans hb2).trans hb3⟩
theorem grown_n {P : Program} {f : FuncId} {args : Array Value} {W : World} {v : Value} (h : Calls P f args W fun e w' => e = .returned v ∧ ∃ n x y, w' = ((W.alloc x).alloc y).drewN n) :
 Calls P f args W fun e w' => e = .returned v ∧ ∃ q os', w' = Sort.grow (W.drewN q) os' :=
 h.mono fun _ _ ⟨he, n, x, y, hw⟩ => ⟨he, n, #[x, y], by
  rw [hw, Sort.alloc_eq_grow, Sort.alloc_eq_grow, Sort.grow_grow]; rfl⟩
theorem chk_id60 {x : Ent} (h : chkE x = 0) : (eI x).length ≤ 60 := by
 unfold chkE at h; split at h
 · omega
 · split at h
   · omega
   · omega
theorem EnS.tk {w : World} {ao : Option Addr} {n c : Nat} {l : List Ent} (h : EnS w (.slice ao n c) l) (i : Nat) (hi : i ≤ n) : EnS w (.slice ao i c) (l.take i) := by
 obtain ⟨a, cap, e, hc, h⟩ := h; cases e; have hlt : (l.take i).length = i := by rw [List.length_take]; omega
 refine ⟨ao, c, by rw [hlt], by omega, fun j hj => ?_⟩; have hj' : j < l.length := by omega
 rw [List.getElem_take]; exact h j hj'
theorem plI_pos {l : List Ent} {i : Nm} : 0 ≤ plI l i ↔ (l.any fun y => decide (eI y = i)) = true := by
 unfold plI; cases h : plE l i with
 | none =>
   have hn := plE_none h; simp only [List.any_eq_true, decide_eq_true_eq]; constructor
   · intro h2; exact absurd h2 (by decide)
   · rintro ⟨y, hy, e⟩; exact absurd e (hn y hy)
 | some k =>
   obtain ⟨hk, he⟩ := plE_some h; simp only [List.any_eq_true, decide_eq_true_eq]; exact ⟨fun _ => ⟨l[k], List.getElem_mem hk, he⟩, fun _ => Int.natCast_nonneg k⟩
theorem ordE_ah (p x : Ent) : decide (0 ≤ ordE p x) = !ahB p x := by
 have h := ahB_iff p x; unfold Ahd at h; rw [Bool.eq_iff_iff, Bool.not_eq_true', decide_eq_true_iff, Bool.eq_false_iff, ne_eq, h]; omega
theorem stE_ref {seen : List Ent} {x : Ent} (h : chkE x = 0) (h2 : ¬ 0 ≤ plI seen (eI x)) : stE seen x = if (seen.getLast?.any fun p => !ahB p x) = true then 4 else 0 := by
 unfold stE; rw [if_neg (by simpa using h), if_neg (fun e => h2 (plI_pos.2 e))]; simp only [ordE_ah]
theorem stE_six {seen : List Ent} {x : Ent} (h : chkE x = 0) (h2 : 0 ≤ plI seen (eI x)) : stE seen x = 6 := by
 unfold stE; rw [if_neg (by simpa using h), if_pos (plI_pos.1 h2)]
theorem checkShR_c (s : Shf) (v : Value) (w : World) (hS : ShS w v s) :
 Calls Tryz.prog 11 #[v] w fun e w' => e = .returned (.int .i64 (ckS s)) ∧ Bl w w' := by
 obtain ⟨ve, vr, rfl, hEn, hRd⟩ := hS; have hEn0 := hEn; obtain ⟨l, rd⟩ := s; obtain ⟨ao, cap, rfl, hcap, hA⟩ := hEn; obtain ⟨ar, cr, rfl, hcr, hR⟩ := hRd; simp only at hEn0 hcap hA hcr hR ⊢; by_cases hm : 20 < l.length ∨ 40 < rd.length
 · have HR := Lib.hid (ckS_many (s := (l, rd)) hm); by_cases h1 : 20 < l.length
   · have h1' : (20 : Int) < (l.length : Int) := by omega
     clear hm h1 hA hR; go_enter Tryz.func11, Tryz.ntmps11; go_wp2; go_ret; exact ⟨ret_int (by rw [HR.out]), (Bl.refl _).alloc _⟩
   · have h1' : ¬ (20 : Int) < (l.length : Int) := by omega
     have h2' : (40 : Int) < (rd.length : Int) := by omega
     clear hm h1 hA hR; go_enter Tryz.func11, Tryz.ntmps11; go_wp2; go_ret; exact ⟨ret_int (by rw [HR.out]), (Bl.refl _).alloc _⟩
 · have h1' : ¬ (20 : Int) < (l.length : Int) := by omega
   have h2' : ¬ (40 : Int) < (rd.length : Int) := by omega
   have HM1 := Lib.hid (show enG [] l ≠ 0 → ckS (l, rd) = enG [] l from fun h => ckS_ent (s := (l, rd)) hm h); have HM2 := Lib.hid (show enG [] l = 0 → ckS (l, rd) = rdG none rd from fun h => ckS_read (s := (l, rd)) hm h); have hl20 : l.length ≤ 20 := by omega
   have hr40 : rd.length ≤ 40 := by omega
   have HEn := Lib.hid hEn0; have HRd := Lib.hid hR; have Q0 := B2.new w (.slice ao l.length cap) (.slice ar rd.length cr) 27; have hb0 : Bl w (w.alloc (.cells #[.slice ao l.length cap, .slice ar rd.length cr] 27)) := (Bl.refl _).alloc _; clear hm hEn0 hR; go_enter Tryz.func11, Tryz.ntmps11; go_wp2; go_loopw [3] (fun i wr => ∃ k : Nat, k ≤ l.length ∧ i = .int .i64 k ∧ Hid (enG [] l = enG (l.take k) (l.drop k)) ∧ Bl w wr ∧ B2 wr w.heap.size (.slice ao l.length cap) (.slice ar rd.length cr) ∧ Hid (∀ j (h : j < l.length), j < k → chkE l[j] = 0)) (fun i _ => l.length - (intOf i).toNat); case atStart => exact ⟨0, Nat.zero_le _, rfl, Lib.hid (by rw [List.take_zero, List.drop_zero]), hb0, Q0, Lib.hid (fun j _ h => by omega)⟩
   case round =>
    obtain ⟨k, hk, rfl, HP, hbw, Q0, HZ⟩ := hrel; obtain ⟨q0l, q0a, q0b⟩ := id Q0; by_cases hlt : k < l.length
    · obtain ⟨g, o, rfl, hg, h1, h2, h3, h4, h5⟩ := hA k hlt; have x1 := (hbw.cells.1 g _ hg).trans h1; have x2 := (hbw.cells.1 g _ hg).trans h2; have x3 := (hbw.cells.1 g _ hg).trans h3; have x4 := (hbw.cells.1 g _ hg).trans h4; have x5 := (hbw.cells.1 g _ hg).trans h5; have hgw : g < wr.heap.size := Nat.lt_of_lt_of_le hg (Below.size hbw); have HS := Lib.hid (HP.out.trans (enG_at l k hlt)); have HPV : ∀ j, k = j + 1 → ∃ y, (l.take k).getLast? = some y ∧ chkE y = 0 ∧ w.cell? ⟨g, o + j * 5, none⟩ = some (.string ⟨(eI y).toArray⟩) ∧ w.cell? ⟨g, o + j * 5 + 1, none⟩ = some (.string ⟨(eT y).toArray⟩) ∧
       w.cell? ⟨g, o + j * 5 + 2, none⟩ = some (.string ⟨(eL y).toArray⟩) ∧ w.cell? ⟨g, o + j * 5 + 3, none⟩ = some (.int .i64 (eA y)) ∧ w.cell? ⟨g, o + j * 5 + 4, none⟩ = some (.string ⟨(eH y).toArray⟩) := fun j e => by
       obtain ⟨g', o', e2, _, hh⟩ := hA j (by omega); cases e2; refine ⟨l[j], ?_, HZ.out j (by omega) (by omega), hh⟩; rw [last_take l k hk (by omega)]; congr 1; congr 1; omega
      have HPV := Lib.hid HPV; have HZ2 := Lib.hid (show chkE l[k] = 0 → ∀ j (h : j < l.length), j < k + 1 → chkE l[j] = 0 from fun e j h h2 => by
       by_cases e2 : j = k
       · subst e2; exact e
       · exact HZ.out j h (by omega))
      have EA := Lib.hid (fun W (hh : Bl wr W) => entryAt_c (l.take k) _ (eI l[k]) (by rw [List.length_take]; omega) W (((HEn.out.of_bl hbw).of_bl hh).tk k hk)); have CK0 := fun W => chkER_c l[k] W
      unfold enV at CK0; have CK := Lib.hid CK0; have HC0 := Lib.hid (show chkE l[k] ≠ 0 → stE (l.take k) l[k] = chkE l[k] from fun h => stE_chk h); have HC1 := Lib.hid (show chkE l[k] = 0 → 0 ≤ plI (l.take k) (eI l[k]) → stE (l.take k) l[k] = 6 from fun h h2 => stE_six h h2); have HC2 := Lib.hid (show chkE l[k] = 0 → ¬ 0 ≤ plI (l.take k) (eI l[k]) → stE (l.take k) l[k] = if ((l.take k).getLast?.any fun p => !ahB p l[k]) = true then 4 else 0 from fun h h2 => stE_ref h h2); have HID := Lib.hid (show chkE l[k] = 0 → (eI l[k]).length ≤ 60 from chk_id60); clear CK0 h1 h2 h3 h4 h5 hA; obtain ⟨x, hx⟩ : ∃ x, x = l[k] := ⟨_, rfl⟩; rw [← hx] at x1 x2 x3 x4 x5 HS HZ2 EA CK HC0 HC1 HC2 HID; obtain ⟨p, hp⟩ : ∃ p, p = plI (l.take k) (eI x) := ⟨_, rfl⟩; rw [← hp] at EA HC1 HC2; clear hx hp; by_cases hz : chkE x = 0
      · have HZ3 := Lib.hid (HZ2.out hz); have HIx := Lib.hid (HID.out hz); have HD1 := Lib.hid (HC1.out hz); have HD2 := Lib.hid (HC2.out hz); rw [hz] at CK; clear HZ2 HID HC0 HC1 HC2 hz; go_upto_region 9 with (go_at_call 10; (with_reducible refine (CK.out _).mono ?_); rintro e w3 ⟨rfl, hb3⟩; have Q3 := Q0.of_bl hb3; obtain ⟨l3, q3a, q3b⟩ := id Q3); have hb13 : Bl w w3 := hbw.trans hb3; have X1 := (hb3.cells.1 g _ hgw).trans x1; by_cases hpp : 0 ≤ p
        · have HF := Lib.hid (show ckS (l, rd) = 6 by
           have h6 := HD1.out hpp; have h7 : enG [] l = 6 := by rw [HS.out, h6]; rfl
           rw [HM1.out (by rw [h7]; decide), h7])
          go_wp2_with (go_quiet ((go_at_call 31; first | exact quiet_eq (EA.out _ (hb3.drewN _)) | exact quiet_eq2 (EA.out _ (hb3.drewN _))))); go_ret; exact ⟨ret_int HF.out.symm, (by repeat (first | exact hb13 | refine Bl.drewN ?_ _))⟩
        · have HST := Lib.hid (HD2.out (by omega)); obtain ⟨B, hB⟩ : ∃ B : Bool, B = decide (stE (l.take k) x ≠ 0) := ⟨_, rfl⟩; have HB := Lib.hid hB; clear hB HD1 HD2; go_upto_region 11 with (go_quiet ((go_at_call 31; first | exact quiet_eq (EA.out _ (hb3.drewN _)) | exact quiet_eq2 (EA.out _ (hb3.drewN _))))); obtain ⟨w4, hw4⟩ : ∃ w4, w4 = w3.drewN nq := ⟨_, rfl⟩; have hb34 : Bl w3 w4 := by rw [hw4]; exact (Bl.refl _).drewN _
          rw [← hw4]; clear hw4; have hb14 := hb13.trans hb34; have Q4 := Q3.of_bl hb34; obtain ⟨l4, q4a, q4b⟩ := id Q4; clear l3 q3a q3b q0l q0a q0b; go_cut [60] from 44 to 60 (fun v wx => v = .bool B ∧ Bl w4 wx); case first =>
           by_cases hk0 : k = 0
           · have HF := Lib.hid (show B = false by rw [HB.out, HST.out]; simp [hk0]); subst hk0; go_quiet (fail); go_wp2; go_meet; case rel => exact ⟨by rw [HF.out], (Bl.refl _).drewN _⟩
           · obtain ⟨j, hkj⟩ : ∃ j, k = j + 1 := ⟨k - 1, by omega⟩; obtain ⟨y, hy, hty, y0, y1, y2, y3, y4⟩ := HPV.out j hkj; have hk2 : (k : Int) - 1 = (j : Int) := by omega
             have hkp : 0 < k := by omega
             have Y0 := (hb14.cells.1 g _ hg).trans y0; have Y1 := (hb14.cells.1 g _ hg).trans y1; have Y2 := (hb14.cells.1 g _ hg).trans y2; have Y3 := (hb14.cells.1 g _ hg).trans y3; have Y4 := (hb14.cells.1 g _ hg).trans y4; have hb4r : Bl wr w4 := hb3.trans hb34; have Z0 := (hb4r.cells.1 g _ hgw).trans x1; have Z1 := (hb4r.cells.1 g _ hgw).trans x2; have Z2 := (hb4r.cells.1 g _ hgw).trans x3; have Z3 := (hb4r.cells.1 g _ hgw).trans x4; have Z4 := (hb4r.cells.1 g _ hgw).trans x5; have hgw4 : g < w4.heap.size := Nat.lt_of_lt_of_le hg (Below.size hb14); have hmix : Tryz.prog.follows .mixedOrders = true := by kernel_rfl
             have hkl : j < l.length := by omega
             have hkl2 : (j : Int) < (l.length : Int) := by omega
             have hwj : IntKind.i64.wrap (j : Int) = (j : Int) := by rw [IntKind.wrap_i64]; omega
             have OC0 := fun W => isAheadG_c y x (by have := chk_id60 hty; omega) (by have := HIx.out; omega) W
             unfold enV at OC0; have HSY := Lib.hid (show B = !ahB y x by
              rw [HB.out, HST.out, hy]; simp only [Option.any_some]; by_cases h : ahB y x = true <;> simp [h])
             obtain ⟨q, hq⟩ : ∃ q, q = ahB y x := ⟨_, rfl⟩; rw [← hq] at HSY OC0; have OC := Lib.hid OC0; clear OC0 hq hk0 y0 y1 y2 y3 y4 hy x1 x2 x3 x4 x5 X1 hkj hty; have G0 := fun n os => cell_grown (a := ⟨g, o + j * 5, none⟩) hgw4 Y0 n os
             have G1 := fun n os => cell_grown (a := ⟨g, o + j * 5 + 1, none⟩) hgw4 Y1 n os
             have G2 := fun n os => cell_grown (a := ⟨g, o + j * 5 + 2, none⟩) hgw4 Y2 n os
             have G3 := fun n os => cell_grown (a := ⟨g, o + j * 5 + 3, none⟩) hgw4 Y3 n os
             have G4 := fun n os => cell_grown (a := ⟨g, o + j * 5 + 4, none⟩) hgw4 Y4 n os
             have K0 := fun n os => cell_grown (a := ⟨g, o + k * 5, none⟩) hgw4 Z0 n os
             have K1 := fun n os => cell_grown (a := ⟨g, o + k * 5 + 1, none⟩) hgw4 Z1 n os
             have K2 := fun n os => cell_grown (a := ⟨g, o + k * 5 + 2, none⟩) hgw4 Z2 n os
             have K3 := fun n os => cell_grown (a := ⟨g, o + k * 5 + 3, none⟩) hgw4 Z3 n os
             have K4 := fun n os => cell_grown (a := ⟨g, o + k * 5 + 4, none⟩) hgw4 Z4 n os
             have B0 := fun n os => cell_grown (a := ⟨w.heap.size, 0, none⟩) l4 q4a n os
             refine wp_region_quiet_grown hmix (by kernel_rfl) ?_; repeat (quiet_step ((go_at_call 32; exact Calls.grown_of (grown_n (OC.out _)))))
             refine wpQuiet_nil ?_; intro _ hw'; obtain ⟨⟨nq2, osq⟩, hw''⟩ := hw'; subst hw''; go_wp2; go_meet; case rel => exact ⟨by rw [HSY.out], bl_grow _ _ _⟩
          case rest =>
           obtain ⟨rfl, hb5⟩ := hcut; cases B with
           | true =>
             have HF := Lib.hid (show ckS (l, rd) = 4 by
              have h5 : stE (l.take k) x ≠ 0 := of_decide_eq_true HB.out.symm; have h6 : stE (l.take k) x = 4 := by
               have := HST.out; split at this
               · exact this
               · exact absurd this h5
              have h7 : enG [] l = 4 := by rw [HS.out, h6]; rfl
              rw [HM1.out (by rw [h7]; decide), h7])
             go_wp2; go_ret; exact ⟨ret_int HF.out.symm, hb14.trans hb5⟩
           | false =>
             have HF := Lib.hid (show enG [] l = enG (l.take (k + 1)) (l.drop (k + 1)) by
              have h5 : ¬ stE (l.take k) x ≠ 0 := of_decide_eq_false HB.out.symm; rw [HS.out, if_neg h5])
             go_wp2; go_roundw; case rel => exact ⟨k + 1, by omega, by go_num, HF, hb14.trans hb5, Q4.of_bl hb5, HZ3⟩
             case measure => simp [intOf]; omega
      · have hz' : (chkE x != 0) = true := by simpa using hz
        have HF := Lib.hid (show ckS (l, rd) = chkE x by
         have h6 := HC0.out hz; have h7 : enG [] l = chkE x := by rw [HS.out, h6, if_pos hz]
         rw [HM1.out (by rw [h7]; exact hz), h7])
        clear hz; go_wp2_with (go_at_call 10; (with_reducible refine (CK.out _).mono ?_); rintro e w3 ⟨rfl, hb3⟩); go_ret; exact ⟨ret_int HF.out.symm, hbw.trans hb3⟩
    · have HF := Lib.hid (show enG [] l = 0 by rw [HP.out, List.drop_of_length_le (by omega)]; rfl); have HF2 := Lib.hid (HM2.out HF.out); clear hA; go_wp2; obtain ⟨w5, hw5⟩ : ∃ w5, w5 = wr := ⟨wr, rfl⟩; subst hw5; clear q0l q0a q0b; go_loopw [5] (fun i wz => ∃ k : Nat, k ≤ rd.length ∧ i = .int .i64 k ∧ Hid (rdG none rd = rdG (prv rd k) (rd.drop k)) ∧ Qt w5 wz ∧ Hid (∀ j (h : j < rd.length), j < k → rd[j].length ≤ 60)) (fun i _ => rd.length - (intOf i).toNat); case atStart => exact ⟨0, Nat.zero_le _, rfl, Lib.hid rfl, Qt.refl _, Lib.hid (fun j _ h => by omega)⟩
      case round =>
       obtain ⟨k2, hk2, rfl, HP2, hq, HZ6⟩ := hrel; obtain ⟨q5l, q5a, q5b⟩ := Q0.of_bl hq.bl; by_cases hlt2 : k2 < rd.length
       · obtain ⟨g, o, rfl, hg, h1⟩ := HRd.out k2 hlt2; have hbq := hbw.trans hq.bl; have x1 := (hbq.cells.1 g _ hg).trans h1; have HS2 := Lib.hid (HP2.out.trans (rdG_at rd k2 hlt2)); have HT := Lib.hid (rdT1_in (prv rd k2) rd[k2]); have HP0 := Lib.hid (show k2 = 0 → prv rd k2 = none from fun e => by unfold prv; rw [if_pos e]); have HP1 := Lib.hid (show k2 ≠ 0 → ∃ p, prv rd k2 = some p ∧ p.length ≤ 60 ∧ wr.cell? ⟨g, o + (k2 - 1), none⟩ = some (.string ⟨p.toArray⟩) from fun e => by
          obtain ⟨g', o', e2, hg', h2⟩ := HRd.out (k2 - 1) (by omega); cases e2; refine ⟨rd[k2 - 1], ?_, HZ6.out (k2 - 1) (by omega) (by omega), (hbq.cells.1 g _ hg).trans h2⟩; unfold prv; rw [if_neg e, List.getElem?_eq_getElem (by omega)])
         have HT1 := Lib.hid (show rd[k2] = [] → rdT1 (prv rd k2) rd[k2] = 1 from fun e => by unfold rdT1; rw [if_pos e]); have HT2 := Lib.hid (show rd[k2] ≠ [] → 60 < rd[k2].length → rdT1 (prv rd k2) rd[k2] = 2 from fun e e2 => by unfold rdT1; rw [if_neg e, if_pos e2]); have HZ7 := Lib.hid (show rd[k2].length ≤ 60 → ∀ j (h : j < rd.length), j < k2 + 1 → rd[j].length ≤ 60 from fun e j h h2 => by
          by_cases e2 : j = k2
          · subst e2; exact e
          · exact HZ6.out j h (by omega))
         obtain ⟨s, hs⟩ : ∃ s, s = rd[k2] := ⟨_, rfl⟩; obtain ⟨P, hP⟩ : ∃ P, P = prv rd k2 := ⟨_, rfl⟩; rw [← hs, ← hP] at HS2 HT HT1 HT2; rw [← hs] at x1 HZ7; rw [← hP] at HP0 HP1; clear h1 HP2 hs hP HZ6; by_cases hse : s = []
         · have HF3 := Lib.hid (HT1.out hse); subst hse; go_wp2; go_ret; exact ⟨ret_int (by rw [HF2.out, HS2.out, HF3.out]; rfl), hbq⟩
         · have hse' : s.isEmpty = false := by cases s <;> simp_all
           by_cases hsl : 60 < s.length
           · have HF3 := Lib.hid (HT2.out hse hsl); have hsl' : (60 : Int) < (s.length : Int) := by omega
             clear hse hsl; go_wp2; go_ret; exact ⟨ret_int (by rw [HF2.out, HS2.out, HF3.out]; rfl), hbq⟩
           · have hsl' : ¬ (60 : Int) < (s.length : Int) := by omega
             have HT3 := Lib.hid (HT.out hse hsl); have HZ8 := Lib.hid (HZ7.out (by omega)); have hs60 : s.length ≤ 60 := by omega
             clear hse hsl HT1 HT2 HT HZ7; by_cases hk0 : k2 = 0
             · have HF3 := Lib.hid (show rdT1 P s = 0 by rw [HT3.out, HP0.out hk0]; rfl); subst hk0; rw [Nat.add_zero] at x1; clear HP1; go_wp2_with (go_quiet (fail)); go_roundw; case rel => exact ⟨1, by omega, by go_num, Lib.hid (by rw [HS2.out, HF3.out]; rfl), (by repeat (first | exact hq | refine Qt.drewN ?_ _)), HZ8⟩
               case measure => simp [intOf]; omega
             · obtain ⟨p, hp, hp60, xp⟩ := HP1.out hk0; have HT4 := Lib.hid (show rdT1 P s = if (!Op.bytesLess p s) = true then 4 else 0 by rw [HT3.out, hp]; rfl); have hk1 : 0 < k2 := by omega
               have hwk : IntKind.i64.wrap ((k2 - 1 : Nat) : Int) = ((k2 - 1 : Nat) : Int) := by rw [IntKind.wrap_i64]; omega
               have hkl3 : k2 - 1 < rd.length := by omega
               have hk3 : ((k2 : Int) - 1) = ((k2 - 1 : Nat) : Int) := by omega
               have TC := Lib.hid (fun W => textLess_c p s (by omega) (by omega) W); clear HP1 hp HP0 HT3 hk0; cases hb : Op.bytesLess p s with
               | true =>
                 have HF3 := Lib.hid (show rdT1 P s = 0 by rw [HT4.out, hb]; rfl); rw [hb] at TC; clear hb; go_wp2_with (go_quiet ((go_at_call 33; first | exact quiet_qt (TC.out _) | exact quiet_qt2 (TC.out _)))); go_roundw; case rel => exact ⟨k2 + 1, by omega, by go_num, Lib.hid (by rw [HS2.out, HF3.out]; rfl), (by repeat (first | exact hq | refine Qt.drewN ?_ _)), HZ8⟩
                 case measure => simp [intOf]; omega
               | false =>
                 have HF3 := Lib.hid (show rdT1 P s = 4 by rw [HT4.out, hb]; rfl); rw [hb] at TC; clear hb; go_wp2_with (go_quiet ((go_at_call 33; first | exact quiet_qt (TC.out _) | exact quiet_qt2 (TC.out _)))); go_ret; exact ⟨ret_int (by rw [HF2.out, HS2.out, HF3.out]; rfl), (by repeat (first | exact hbq | refine Bl.drewN ?_ _))⟩
       · have HF3 := Lib.hid (show rdG none rd = 0 by rw [HP2.out, List.drop_of_length_le (by omega)]; rfl); go_wp2; go_ret; exact ⟨ret_int (by rw [HF2.out, HF3.out]), hbw.trans hq.bl⟩
end Go.Proofs.YtamdlihgecpbkaaGreatDoor

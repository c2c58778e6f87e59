/- Clean markup: kinds of elements and attributes; is a tree clean? · Tokens: Check of the program. · Tokens: one; Check of the program. · Trees: a token comes: a text; one that closes. -/
import Derived.Test.YtamdlihgecpbkaaGreatDoorGrpJ
import Derived.Test.YtamdlihgecpbkaaGreatDoorGrpK
import Derived.Test.YtamdlihgecpbkaaGreatDoorGrpL
import Derived.Test.YtamdlihgecpbkaaGreatDoorGrpF
import Derived.Test.YtamdlihgecpbkaaGreatDoorGrpE
set_option maxRecDepth 100000
set_option maxHeartbeats 2000000
namespace Go.Proofs.YtamdlihgecpbkaaGreatDoor
open Go.RowKit
theorem ctn_iff (l : List Nm) (n : Nm) : ((List.range l.length).any fun i => decide (n = l.getD i [])) = l.contains n := by
 rw [any_range (fun x => decide (n = x)) l [], Bool.eq_iff_iff, List.any_eq_true]; simp
theorem indexS_c (l : List Nm) (v : Value) (nm : Nm) (hl : l.length ≤ 1099511627776) (w : World) (hA : StS w v l) :
 Calls Tryz.prog 156 #[v, .string ⟨nm.toArray⟩] w fun e w' => e = .returned (.int .i64 (ixB (fun i => decide (nm = l.getD i [])) l.length)) ∧ Bl w w' := by
 obtain ⟨ao, cap, rfl, hc, hA⟩ := hA; go_enter Tryz.func156, Tryz.ntmps156; go_wp2; go_loopw [8] (fun i wr => ∃ k : Nat, k ≤ l.length ∧ i = .int .i64 k ∧ Hid (∀ j, j < k → decide (nm = l.getD j []) = false) ∧ Bl w wr) (fun i _ => l.length - (intOf i).toNat); case atStart => exact ⟨0, Nat.zero_le _, rfl, Lib.hid (fun j h => by omega), Bl.refl _⟩
 case round =>
  obtain ⟨k, hk, rfl, HP, hbl⟩ := hrel; by_cases hlt : k < l.length
  · obtain ⟨g, o, rfl, hg, h1⟩ := hA k hlt; have x1 := (hbl.cells.1 g _ hg).trans h1; have HD := Lib.hid (show decide (nm = l.getD k []) = decide (nm = l[k]) by rw [getD_get _ _ _ hlt]); obtain ⟨d, hd⟩ : ∃ d, d = l[k] := ⟨_, rfl⟩; rw [← hd] at x1 HD; clear h1 hA hd; by_cases he : nm = d
    · have HF := Lib.hid (show decide (nm = l.getD k []) = true by rw [HD.out]; exact decide_eq_true he); have he' : (nm == d) = true := by simpa using he
      clear HD he; go_wp2; go_ret; exact ⟨ret_int (ixB_hit _ _ k hlt HF.out HP.out).symm, hbl⟩
    · have HF := Lib.hid (show decide (nm = l.getD k []) = false by rw [HD.out]; exact decide_eq_false he); have he' : (nm == d) = false := by simpa using he
      clear HD he; go_wp2; go_roundw; case rel =>
       refine ⟨k + 1, by omega, by go_num, Lib.hid (fun j hjk => ?_), hbl⟩; by_cases e : j = k
       · subst e; exact HF.out
       · exact HP.out j (by omega)
      case measure => simp [intOf]; omega
  · go_wp2; go_ret; exact ⟨ret_int (ixB_miss _ _ (fun j hj => HP.out j (by omega))).symm, hbl⟩
theorem containsS_c (l : List Nm) (v : Value) (nm : Nm) (hl : l.length ≤ 1099511627776) (w : World) (hA : StS w v l) :
 Calls Tryz.prog 123 #[v, .string ⟨nm.toArray⟩] w fun e w' => e = .returned (.bool (l.contains nm)) ∧ Bl w w' := by
 have HI := Lib.hid (indexS_c l v nm hl w hA); have HX := Lib.hid ((ixB_any (fun i => decide (nm = l.getD i [])) l.length).trans (ctn_iff l nm)); obtain ⟨ao, vc, rfl, -⟩ := hA; go_enter Tryz.func123, Tryz.ntmps123; go_wp2_with (go_at_call 156; (with_reducible refine HI.out.mono ?_); rintro e w' ⟨rfl, hb'⟩); go_ret; exact ⟨ret_bool HX.out, hb'⟩
def strA (l : List Nm) : Array Value := (l.map fun n => Value.string ⟨n.toArray⟩).toArray
theorem sts_new (w : World) (l : List Nm) (e : TypeId) (c : Nat) (hc : l.length ≤ c) : StS (w.alloc (.cells (strA l) e)) (.slice (some ⟨w.heap.size, 0, none⟩) l.length c) l := by
 refine ⟨_, _, rfl, hc, fun i hi => ⟨w.heap.size, 0, rfl, by simp, ?_⟩⟩; have := new_cells w (strA l) e i (.string ⟨l[i].toArray⟩) (by simp [strA, hi]); rw [show (⟨w.heap.size, 0, none⟩ : Addr).add i = ⟨w.heap.size, 0 + i, none⟩ by unfold Addr.add; split <;> simp_all] at this; exact this
theorem allowed_c (n : Nm) (w : World) : Calls Tryz.prog 132 #[.string ⟨n.toArray⟩] w fun e w' => e = .returned (.bool (alwN n)) ∧ Bl w w' := by
 have CC := Lib.hid (fun W (h : StS W (.slice (some ⟨w.heap.size, 0, none⟩) 14 14) alwL) => containsS_c alwL _ n (by decide) W h); have HS := Lib.hid (sts_new w alwL 9 14 (by decide)); go_enter Tryz.func132, Tryz.ntmps132; go_wp2_with (go_at_call 123; (with_reducible refine (CC.out _ HS.out).mono ?_); rintro e w' ⟨rfl, hb'⟩); go_ret; exact ⟨ret_bool (by unfold alwN; simp), ((Bl.refl _).alloc _).trans hb'⟩
theorem link_c (n : Nm) (w : World) : Calls Tryz.prog 131 #[.string ⟨n.toArray⟩] w fun e w' => e = .returned (.bool (lnkN n)) ∧ w = w' := by
 go_enter Tryz.func131, Tryz.ntmps131; go_wp2; all_goals (go_ret; exact ⟨ret_bool (by rw [Bool.eq_iff_iff]; simp [lnkN, sHref, sSrc, *] <;> exact decide_eq_true_iff.symm), rfl⟩)
theorem attr_c (n : Nm) (a : Atr) (w : World) : Calls Tryz.prog 130 #[.string ⟨n.toArray⟩, atV a] w fun e w' => e = .returned (.bool (mayA n a.1)) ∧ Bl w w' := by
 obtain ⟨x, y⟩ := a; unfold atV; by_cases h1 : n = sA
 · subst h1; have HM := Lib.hid (show mayA sA x = (decide (x = sHref) || decide (x = sTitle)) by unfold mayA; simp [sA, sImg]); by_cases h2 : x = sHref
   · subst h2; unfold sA sHref at *; go_enter Tryz.func130, Tryz.ntmps130; go_wp2; go_ret; exact ⟨ret_bool (by decide), (Bl.refl _).alloc _⟩
   · have HX := Lib.hid h2; have h2' : (x == [104, 114, 101, 102]) = false := by simpa [sHref] using h2
     clear h2; unfold sA; go_enter Tryz.func130, Tryz.ntmps130; go_wp2; go_ret; exact ⟨ret_bool (by rw [show mayA [97] x = _ from HM.out, decide_eq_false HX.out, Bool.false_or, Bool.eq_iff_iff]; simp [sTitle]; exact decide_eq_true_iff.symm), (Bl.refl _).alloc _⟩
 · have h1' : (n == [97]) = false := by simpa [sA] using h1
   by_cases h2 : n = sImg
   · subst h2; have HM := Lib.hid (show mayA sImg x = (decide (x = sSrc) || decide (x = sAlt)) by unfold mayA; simp [sA, sImg]); by_cases h3 : x = sSrc
     · subst h3; unfold sImg sSrc at *; go_enter Tryz.func130, Tryz.ntmps130; go_wp2; go_ret; exact ⟨ret_bool (by decide), (Bl.refl _).alloc _⟩
     · have HX := Lib.hid h3; have h3' : (x == [115, 114, 99]) = false := by simpa [sSrc] using h3
       clear h3 h1; unfold sImg; go_enter Tryz.func130, Tryz.ntmps130; go_wp2; go_ret; exact ⟨ret_bool (by rw [show mayA [105, 109, 103] x = _ from HM.out, decide_eq_false HX.out, Bool.false_or, Bool.eq_iff_iff]; simp [sAlt]; exact decide_eq_true_iff.symm), (Bl.refl _).alloc _⟩
   · have h2' : (n == [105, 109, 103]) = false := by simpa [sImg] using h2
     have HM := Lib.hid (show mayA n x = false by unfold mayA; simp [h1, h2]); clear h1 h2; go_enter Tryz.func130, Tryz.ntmps130; go_wp2; go_ret; exact ⟨ret_bool (by rw [HM.out]), (Bl.refl _).alloc _⟩
theorem AtS.take {w : World} {g o c : Nat} {l : List Atr} (h : ∀ i (h : i < l.length), w.cell? ⟨g, o + i * 2, none⟩ = some (.string ⟨l[i].1.toArray⟩) ∧ w.cell? ⟨g, o + i * 2 + 1, none⟩ = some (.string ⟨l[i].2.toArray⟩)) (hg : g < w.heap.size) (k : Nat) (hk : k ≤ l.length) : AtS w (.slice (some ⟨g, o, none⟩) k c) (l.take k) := by
 have hl : (l.take k).length = k := by simp; omega
 refine ⟨some ⟨g, o, none⟩, c, by rw [hl], fun i hi => ?_⟩; rw [hl] at hi; have hi' : i < l.length := by omega
 refine ⟨g, o, rfl, hg, ?_, ?_⟩
 · have := (h i hi').1; simpa using this
 · have := (h i hi').2; simpa using this
theorem emp {l : List UInt8} (h : l ≠ []) : l.isEmpty = false := by cases l <;> simp_all
structure OkS (s : St) (more : Nat) : Prop where
 iv : Iv s
 cnt : cntS s ≤ 90000
 txt : (ntxS s).length + more ≤ 1099511627776
theorem token_c1 (base b : Nat) (P : Nat → Prop) (s : St) (x : List UInt8) (va : Value) (w : World) (hB : BdS w base b P s) (hbw : base ≤ w.heap.size) (hO : OkS s x.length) (hva : ∃ a n c, va = .slice a n c) :
 Calls Tryz.prog 79 #[.pointer (some ⟨b, 0, none⟩), .agg #[.int .i64 1, .string ⟨#[]⟩, va, .string ⟨x.toArray⟩]] w fun e w' => e = .returned (.tuple #[]) ∧ (∃ P', BdS w' base b P' (stp s (1, [], [], x))) ∧ Below base w w' := by
 obtain ⟨a, n, c, rfl⟩ := hva; have PC := Lib.hid (fun (W : World) (hb : Bl w W) => put_tx base b P s x W (hB.of_bl hb) (Nat.le_trans hbw (Below.size hb)) hO.iv (by have := hO.cnt; omega) hO.txt); clear hB hO; go_enter Tryz.func79, Tryz.ntmps79; go_wp2_with (go_at_call 115; (with_reducible refine (PC.out _ ((Bl.refl _).alloc _)).mono ?_); rintro e w2 ⟨rfl, hB2, hb2, -⟩); go_end0; exact ⟨rfl, ⟨P, hB2⟩, Below.trans (Below.alloc (Below.refl _ _) hbw _) hb2⟩
theorem abI_rev (nm : Nm) (p : Nm → Bool) (l : List Nm) : abI nm p l.reverse = match abv nm p l with | some i => (i : Int) | none => -1 := by unfold abI; rw [List.reverse_reverse]; cases abv nm p l <;> rfl
theorem BdS.blt {w : World} {base b : Nat} {P : Nat → Prop} {s : St} (h : BdS w base b P s) : b < w.heap.size := by
 obtain ⟨_, _, _, _, _, _, h⟩ := h; exact h.blt
theorem token_c3 (base b : Nat) (P : Nat → Prop) (s : St) (nm : Nm) (va : Value) (w : World) (hB : BdS w base b P s) (hbw : base ≤ w.heap.size) (hO : OkS s 0) (hva : ∃ a n c, va = .slice a n c) :
 Calls Tryz.prog 79 #[.pointer (some ⟨b, 0, none⟩), .agg #[.int .i64 3, .string ⟨nm.toArray⟩, va, .string ⟨#[]⟩]] w fun e w' => e = .returned (.tuple #[]) ∧ (∃ P', BdS w' base b P' (stp s (3, nm, [], []))) ∧ Below base w w' := by
 obtain ⟨a, n, c, rfl⟩ := hva; have h8 := iv_len hO.iv.1; have hnl : (nms s).reverse.length ≤ 1099511627776 := by rw [List.length_reverse, nms_len]; omega
 have NC := Lib.hid (fun (W : World) (hb : Bl w W) => names_c base b P s W (hB.of_bl hb) (by omega)); have AC := fun (v : Value) (W : World) (h : StS W v (nms s).reverse) => above_c _ _ do_never (nms s).reverse v nm hnl W h
 rw [abI_rev] at AC; have CC := Lib.hid (fun (i : Nat) (W : World) (hb : Bl w W) => close_c base b P s i W (hB.of_bl hb) (Nat.le_trans hbw (Below.size hb)) hO.iv (by have := hO.cnt; omega)); have HB := Lib.hid hB; cases hab : abv nm (fun _ => false) (nms s) with
 | none =>
   have HS := Lib.hid (show stp s (3, nm, [], []) = s by unfold stp; rw [if_neg (show ¬ (3 : Int) = 1 by decide), if_neg (show ¬ (3 : Int) = 2 by decide), if_pos rfl, hab]); rw [hab] at AC; have AC := Lib.hid AC; clear hab hB hO h8 hnl; go_enter Tryz.func79, Tryz.ntmps79; go_wp2_with fail; go_region_with (first | (go_at_call 117; (with_reducible refine (NC.out _ Bl.z).mono ?_); rintro e w1 ⟨v, rfl, hS1, hb1⟩; have z1 : w1.cell? ⟨w.heap.size, 1, none⟩ = some (.string ⟨nm.toArray⟩) := (hb1.cells.1 w.heap.size 1 (by simp)).trans (by simp); have hw1 : Bl w w1 := Bl.trans Bl.z hb1; clear hb1) | (go_at_call 119; (with_reducible refine (AC.out _ _ (by first | exact hS1 | exact hS1.of_bl (Below.drew (Bl.refl _)))).mono ?_); rintro e w7 ⟨rfl, rfl⟩)); all_goals
    go_wp2; go_end0; exact ⟨rfl, ⟨P, by rw [HS.out]; exact HB.out.of_bl (by first | exact hw1 | exact Below.drew hw1)⟩, Below.mono (by first | exact hw1 | exact Below.drew hw1) hbw⟩
 | some i =>
   have HS := Lib.hid (show stp s (3, nm, [], []) = pops (s.2.length - i) s by unfold stp; rw [if_neg (show ¬ (3 : Int) = 1 by decide), if_neg (show ¬ (3 : Int) = 2 by decide), if_pos rfl, hab]); rw [hab] at AC; have AC := Lib.hid AC; clear hab hB hO h8 hnl; go_enter Tryz.func79, Tryz.ntmps79; go_wp2_with fail; go_region_with (first | (go_at_call 117; (with_reducible refine (NC.out _ Bl.z).mono ?_); rintro e w1 ⟨v, rfl, hS1, hb1⟩; have z1 : w1.cell? ⟨w.heap.size, 1, none⟩ = some (.string ⟨nm.toArray⟩) := (hb1.cells.1 w.heap.size 1 (by simp)).trans (by simp); have hw1 : Bl w w1 := Bl.trans Bl.z hb1; clear hb1) | (go_at_call 119; (with_reducible refine (AC.out _ _ (by first | exact hS1 | exact hS1.of_bl (Below.drew (Bl.refl _)))).mono ?_); rintro e w7 ⟨rfl, rfl⟩)); all_goals
    go_wp2_with (go_at_call 80; (with_reducible refine (CC.out i _ (by first | exact hw1 | exact Below.drew hw1)).mono ?_); rintro e w2 ⟨rfl, ⟨P2, -, hB2⟩, hb2, -⟩); go_end0; exact ⟨rfl, ⟨P2, by rw [HS.out]; exact hB2⟩, Below.trans (Below.mono (show Bl w _ by first | exact hw1 | exact Below.drew hw1) hbw) hb2⟩
end Go.Proofs.YtamdlihgecpbkaaGreatDoor

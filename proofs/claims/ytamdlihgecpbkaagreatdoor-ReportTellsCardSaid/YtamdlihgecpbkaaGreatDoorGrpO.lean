/- Trees: node of the program (printed by gen_trenode.py). · Trees: slices.Clone of texts; check of the program. · Trees: check of the program. · Trees: Build of the program. · Tokens that are handed in: what the row's reading gives. · Trees: the constant tree and its tokens, in plain Lean. · Trees: the constant tree of the laws, in memory. · Trees: Check and Flat; what must be in any case. · Trees: textIn and inside of the laws. · Trees: the law TreeKeeps. · Trees that are handed in: what the row's reading gives; weights. · Trees: what is built weighs no more than its tokens; what is flattened neither. · Clean markup: the closures of safe; safe; Stays. · Tokens: how much what is read holds. · Tokens of a text together are not much longer than the text. · Clean markup: safe; Stays. Entries: Check. · Clean markup: Stays. Entries: Check. -/
import Derived.Test.YtamdlihgecpbkaaGreatDoorGrpL
import Derived.Test.YtamdlihgecpbkaaGreatDoorGrpK
import Derived.Test.YtamdlihgecpbkaaGreatDoorGrpM
import Derived.Test.YtamdlihgecpbkaaGreatDoorTreH
import Derived.Deep.AppendLies
import Derived.Test.YtamdlihgecpbkaaGreatDoorGrpN
import Derived.Test.YtamdlihgecpbkaaGreatDoorTokBy
import Derived.Test.YtamdlihgecpbkaaGreatDoorRows
import Derived.Lib.SmallJoins
import Derived.Test.YtamdlihgecpbkaaGreatDoorGrpH
import Derived.Test.YtamdlihgecpbkaaGreatDoorGrpF
import Derived.BigQuiet
import Derived.Test.YtamdlihgecpbkaaGreatDoorGrpI
set_option maxRecDepth 100000
set_option maxHeartbeats 4000000
namespace Go.Proofs.YtamdlihgecpbkaaGreatDoor
open Go.RowKit
theorem addr_at (g o j : Nat) : (⟨g, o, none⟩ : Addr).add j = ⟨g, o + j, none⟩ := by unfold Addr.add; split <;> simp_all
theorem strV_one (l : List Nm) : ∀ u ∈ strV l, u.oneCell' = true := by
 intro u hu; obtain ⟨n, _, rfl⟩ := List.mem_map.1 hu; rfl
theorem sts_news {w : World} {g o c : Nat} {l : List Nm} (h : StS w (.slice (some ⟨g, o, none⟩) l.length c) l) : ∀ j u, (strV l)[j]? = some u → w.cell? ((⟨g, o, none⟩ : Addr).add j) = some u := by
 intro j u hj; obtain ⟨ao, cap, e, _, h⟩ := h; cases e; rw [addr_at]; unfold strV at hj; rw [List.getElem?_map] at hj; cases e2 : l[j]? with
 | none => rw [e2] at hj; simp at hj
 | some n =>
   rw [e2] at hj; obtain ⟨hjl, e3⟩ := List.getElem?_eq_some_iff.1 e2; obtain ⟨g', o', e4, _, h3⟩ := h j hjl; cases e4; rw [h3, e3]; simpa using hj
theorem one_news {w : World} {g : Nat} {v : Value} (h : w.cell? ⟨g, 0, none⟩ = some v) : ∀ j u, [v][j]? = some u → w.cell? ((⟨g, 0, none⟩ : Addr).add j) = some u := by
 intro j u hj; rw [addr_at, Nat.zero_add]; cases j with
 | zero => simp only [List.getElem?_cons_zero, Option.some.injEq] at hj; subst hj; exact h
 | succ j => simp at hj
theorem own_baseT {w : World} {base base' : Nat} {e : TypeId} {size : Nat} {v : Value} {n : Nat} {xs : List Value} (h : w.ownsRow base e size v n xs) (hb : base' ≤ base) : w.ownsRow base' e size v n xs := ⟨h.1, h.2.imp id fun ⟨g, c, cur, h1, h2, h3⟩ => ⟨g, c, cur, h1, Nat.le_trans hb h2, h3⟩⟩
theorem own_sts' {w : World} {base : Nat} {v : Value} {l : List Nm} {n : Nat} (hn : n = l.length) (h : w.ownsRow base 9 1 v n (strV l)) : StS w v l := by subst hn; exact own_sts h
end Go.Proofs.YtamdlihgecpbkaaGreatDoor
namespace Go.Proofs.YtamdlihgecpbkaaGreatDoor
open Go.RowKit Go.ChangeShapes Go.WideShapes Go.ChangeAt Go.WideElems
section
variable {H : Type} {enc : TypeId × Value → H} {w : World} {sp : Nat → Bool} {held : Bool}
theorem cells_get {a : Addr} {n : Nat} {c : List Value} (h : w.cells? 0 a n = some c) : c.length = n ∧ ∀ i, i < n → w.cell? (a.add i) = c[i]? := by
 unfold World.cells? at h; rw [if_pos (Nat.zero_le _)] at h; refine ⟨by simpa using mapM_some_length h, fun i hi => mapM_some_get h i i (by simp [hi])⟩
theorem list_of {α : Type} {Q : Nat → α → Prop} (n : Nat) (h : ∀ i, i < n → ∃ a, Q i a) : ∃ l : List α, l.length = n ∧ ∀ i (hi : i < l.length), Q i l[i] := by
 induction n with
 | zero => exact ⟨[], rfl, fun i hi => absurd hi (by simp)⟩
 | succ n ih =>
   obtain ⟨l, hl, hq⟩ := ih (fun i hi => h i (by omega)); obtain ⟨a, ha⟩ := h n (by omega); refine ⟨l ++ [a], by simp [hl], fun i hi => ?_⟩; simp only [List.length_append, List.length_singleton] at hi; by_cases h2 : i < l.length
   · rw [List.getElem_append_left h2]; exact hq i h2
   · have : i = l.length := by omega
     subst this; simpa [hl] using ha
theorem add_at {a : Addr} (h : a.spot = none) (k : Nat) : a.add k = ⟨a.block, a.off + k, none⟩ := by
 obtain ⟨b, o, s⟩ := a; subst h; unfold Addr.add; split <;> simp_all
theorem cell_lt {a : Addr} {v : Value} (h : w.cell? a = some v) : a.block < w.heap.size := by
 rcases Nat.lt_or_ge a.block w.heap.size with h1 | h1
 · exact h1
 · simp [World.cell?, Array.getElem?_eq_none h1] at h
theorem szT_len (l : List Tok) : l.length ≤ szT l := by
 induction l with
 | nil => simp
 | cons t l ih => simp only [szT, List.map_cons, List.sum_cons, List.length_cons] at *; omega
end
end Go.Proofs.YtamdlihgecpbkaaGreatDoor
namespace Go.Proofs.YtamdlihgecpbkaaGreatDoor
open Go.RowKit
theorem txB_sz (l : List Tok) : txB l ≤ szT l := by
 induction l with
 | nil => simp [txB]
 | cons t l ih => rw [txB_cons]; simp only [szT, List.map_cons, List.sum_cons] at *; omega
end Go.Proofs.YtamdlihgecpbkaaGreatDoor
namespace Go.Proofs.YtamdlihgecpbkaaGreatDoor
open Go.RowKit Go.ChangeShapes Go.WideShapes Go.ChangeAt Go.WideElems
theorem wtA_sz (l : List Atr) : wtA l ≤ szA l := by
 induction l with
 | nil => simp [wtA]
 | cons a l ih => simp only [wtA, szA, List.map_cons, List.sum_cons] at *; omega
theorem szA_wt (l : List Atr) : szA l ≤ 6 * wtA l := by
 induction l with
 | nil => simp [szA]
 | cons a l ih => simp only [wtA, szA, List.map_cons, List.sum_cons] at *; omega
section
variable {H : Type} {enc : TypeId × Value → H} {w : World} {sp : Nat → Bool} {held : Bool}
end
end Go.Proofs.YtamdlihgecpbkaaGreatDoor
namespace Go.Proofs.YtamdlihgecpbkaaGreatDoor
open Go.RowKit
theorem wt_app (l m : List Nd) : wtL (l ++ m) = wtL l + wtL m := by
 induction l with
 | nil => simp [wtL]
 | cons d l ih => simp only [List.cons_append, wtL, ih]; omega
theorem pt_wt (l : List Nd) (d : Nd) : wtL (pt l d) ≤ wtL l + wtN d := by
 have h0 : wtL (l ++ [d]) = wtL l + wtN d := by rw [wt_app]; simp [wtL]
 unfold pt; split
 · rename_i a x k e; split
   · rcases List.eq_nil_or_concat l with rfl | ⟨o, c, rfl⟩
     · simp at e
     · simp only [List.concat_eq_append, List.getLast?_append, List.getLast?_singleton, Option.some_or, Option.some.injEq, List.dropLast_concat] at *; subst e; rw [wt_app, wt_app]; cases d with
       | mk n' a' x' k' =>
         simp only [wtL, wtN, Nd.x, List.length_append] at *; omega
   · omega
 · omega
def wtF : List (Nm × List Atr × List Nd) → Nat
 | [] => 0
 | (n, a, k) :: f => 1 + n.length + wtA a + wtL k + wtF f
def wtS (s : St) : Nat := wtL s.1 + wtF s.2
theorem put_wt (s : St) (d : Nd) : wtS (put s d) ≤ wtS s + wtN d := by
 unfold put; split
 · rename_i r; have := pt_wt r d; simp only [wtS, wtF]; omega
 · rename_i r n a k f; have := pt_wt k d; simp only [wtS, wtF]; omega
theorem pop_wt (s : St) : wtS (pop s) ≤ wtS s := by
 unfold pop; split
 · exact Nat.le_refl _
 · rename_i r n a k f; have := put_wt (r, f) (.mk n a [] k); simp only [wtS, wtF, wtN, List.length_nil] at *; omega
theorem pops_wt (j : Nat) : ∀ s : St, wtS (pops j s) ≤ wtS s := by
 induction j with
 | zero => intro s; exact Nat.le_refl _
 | succ j ih => intro s; rw [pops_succ]; exact Nat.le_trans (ih _) (pop_wt s)
theorem opn_wt (s : St) (n : Nm) (a : List Atr) : wtS (opn s n a) ≤ wtS s + (1 + n.length + wtA a) := by
 unfold opn; split
 · omega
 · split
   · have := put_wt s (.mk n a [] []); simp only [wtN, wtL, List.length_nil] at this; omega
   · simp only [wtS, wtF, wtL]; omega
theorem stp_wt (s : St) (t : Tok) : wtS (stp s t) ≤ wtS s + (t.2.1.length + szA t.2.2.1 + 6 * t.2.2.2.length + 5) := by
 have hA := wtA_sz t.2.2.1; unfold stp; split
 · have := put_wt s (.mk [] [] t.2.2.2 []); simp only [wtN, wtL, wtA, List.map_nil, List.sum_nil, List.length_nil] at this; omega
 · split
   · have h1 := opn_wt (pops (s.2.length - cls (nms s) t.2.1) s) t.2.1 t.2.2.1; have h2 := pops_wt (s.2.length - cls (nms s) t.2.1) s; omega
   · split
     · split
       · rename_i i _; have := pops_wt (s.2.length - i) s; omega
       · omega
     · omega
theorem foldl_wt (l : List Tok) : ∀ s : St, wtS (l.foldl stp s) ≤ wtS s + szT l := by
 induction l with
 | nil => intro s; simp
 | cons t l ih =>
   intro s; have h1 := ih (stp s t); have h2 := stp_wt s t; simp only [List.foldl_cons, szT, List.map_cons, List.sum_cons] at *; omega
theorem wt_ofM (l : List Tok) : wtL (ofM l) ≤ szT l := by
 have h1 := foldl_wt l ([], []); have h2 := pops_wt (l.foldl stp ([], [])).2.length (l.foldl stp ([], [])); have h3 : wtS (([], []) : St) = 0 := rfl; unfold ofM fin; have h4 : ∀ s : St, wtL s.1 ≤ wtS s := fun s => by unfold wtS; omega
 have := h4 (pops (l.foldl stp ([], [])).2.length (l.foldl stp ([], []))); omega
theorem szT_app (l m : List Tok) : szT (l ++ m) = szT l + szT m := by simp [szT]
theorem sz_flt (l : List Nd) : szT (fltL l) ≤ 10 * wtL l := by
 induction l using Nd.ind with
 | h0 => simp [fltL, szT]
 | h1 n a x k l ik il =>
   simp only [fltL, fltN, wtL, wtN, szT_app]; have hA := szA_wt a; split
   · simp only [szT, List.map_cons, List.map_nil, List.sum_cons, List.sum_nil, szA, List.length_nil] at *; omega
   · split
     · simp only [szT, List.map_cons, List.map_nil, List.sum_cons, List.sum_nil, List.length_nil] at *; omega
     · have h2 : szT ((2, n, a, []) :: (fltL k ++ [(3, n, [], [])])) = (n.length + szA a + 5) + (szT (fltL k) + (n.length + 5)) := by
        simp [szT, szA]
       rw [h2]; omega
def B2 (W : World) (b : Nat) (x y : Value) : Prop := b < W.heap.size ∧ W.cell? ⟨b, 0, none⟩ = some x ∧ W.cell? ⟨b, 1, none⟩ = some y
theorem B2.of_bl {W W' : World} {b : Nat} {x y : Value} (h : B2 W b x y) (hb : Bl W W') : B2 W' b x y :=
 ⟨Nat.lt_of_lt_of_le h.1 (Below.size hb), (hb.cells.1 b 0 h.1).trans h.2.1, (hb.cells.1 b 1 h.1).trans h.2.2⟩
theorem B2.new (w : World) (x y : Value) (t : TypeId) : B2 (w.alloc (.cells #[x, y] t)) w.heap.size x y := ⟨by simp, by simp, by simp⟩
def B4 (W : World) (b : Nat) (x y z u : Value) : Prop := b < W.heap.size ∧ W.cell? ⟨b, 0, none⟩ = some x ∧ W.cell? ⟨b, 1, none⟩ = some y ∧ W.cell? ⟨b, 2, none⟩ = some z ∧ W.cell? ⟨b, 3, none⟩ = some u
theorem B4.of_bl {W W' : World} {b : Nat} {x y z u : Value} (h : B4 W b x y z u) (hb : Bl W W') : B4 W' b x y z u :=
 ⟨Nat.lt_of_lt_of_le h.1 (Below.size hb), (hb.cells.1 b 0 h.1).trans h.2.1, (hb.cells.1 b 1 h.1).trans h.2.2.1, (hb.cells.1 b 2 h.1).trans h.2.2.2.1, (hb.cells.1 b 3 h.1).trans h.2.2.2.2⟩
theorem B4.new (w : World) (x y z u : Value) (t : TypeId) : B4 (w.alloc (.cells #[x, y, z, u] t)) w.heap.size x y z u := ⟨by simp, by simp, by simp, by simp, by simp⟩
def B1 (W : World) (b : Nat) (x : Value) : Prop := b < W.heap.size ∧ W.cell? ⟨b, 0, none⟩ = some x
theorem B1.of_bl {W W' : World} {b : Nat} {x : Value} (h : B1 W b x) (hb : Bl W W') : B1 W' b x := ⟨Nat.lt_of_lt_of_le h.1 (Below.size hb), (hb.cells.1 b 0 h.1).trans h.2⟩
theorem badA_c (n : Nm) (a : Atr) (q : Nat) (ha : a.2.length ≤ 1000000) (w : World) (hq : B1 w q (.string ⟨n.toArray⟩)) :
 Calls Tryz.prog 129 #[atV a, .pointer (some ⟨q, 0, none⟩)] w fun e w' => e = .returned (.bool (badA n a)) ∧ Bl w w' := by
 obtain ⟨x, y⟩ := a; have AC := Lib.hid (fun W => attr_c n (x, y) W); have LC := Lib.hid (fun W => link_c x W); have IC := Lib.hid (fun W => is_c y ha W); have hQ0 := hq.of_bl ((Bl.refl _).alloc (.cells #[.string ⟨x.toArray⟩, .string ⟨y.toArray⟩] 123)); have hB0 := B2.new w (.string ⟨x.toArray⟩) (.string ⟨y.toArray⟩) 123; unfold atV at AC ⊢; have HB := Lib.hid (show badA n (x, y) = (!mayA n x || lnkN x && (!isU y || decide (3000 < y.length))) from rfl); simp only at AC ha ⊢; obtain ⟨hql, hqc⟩ := hq; cases hm : mayA n x with
 | false =>
   rw [hm] at AC HB; clear hm; go_enter Tryz.func129, Tryz.ntmps129; go_wp2_with (go_at_call 130; (with_reducible refine (AC.out _).mono ?_); rintro e w1 ⟨rfl, hb1⟩); go_ret; exact ⟨ret_bool (by rw [HB.out]; rfl), ((Bl.refl _).alloc _).trans hb1⟩
 | true =>
   rw [hm] at AC HB; clear hm; cases hl : lnkN x with
   | false =>
     rw [hl] at LC HB; clear hl; go_enter Tryz.func129, Tryz.ntmps129; go_wp2_with (first | (go_at_call 130; (with_reducible refine (AC.out _).mono ?_); rintro e w1 ⟨rfl, hb1⟩; obtain ⟨l1, x1, y1⟩ := hB0.of_bl hb1) | (go_at_call 131; (with_reducible refine (LC.out _).mono ?_); rintro e w2 ⟨rfl, rfl⟩)); go_ret; exact ⟨ret_bool (by rw [HB.out]; rfl), ((Bl.refl _).alloc _).trans hb1⟩
   | true =>
     rw [hl] at LC HB; clear hl; cases hu : isU y with
     | false =>
       rw [hu] at IC HB; clear hu; go_enter Tryz.func129, Tryz.ntmps129; go_wp2_with (first | (go_at_call 130; (with_reducible refine (AC.out _).mono ?_); rintro e w1 ⟨rfl, hb1⟩; obtain ⟨l1, x1, y1⟩ := hB0.of_bl hb1) | (go_at_call 131; (with_reducible refine (LC.out _).mono ?_); rintro e w2 ⟨rfl, rfl⟩) | (go_at_call 55; (with_reducible refine (IC.out _).mono ?_); rintro e w3 ⟨rfl, hb3⟩)); go_ret; exact ⟨ret_bool (by rw [HB.out]; rfl), (((Bl.refl _).alloc _).trans hb1).trans hb3⟩
     | true =>
       rw [hu] at IC HB; clear hu; have hd := Lib.hid (show decide (3000 < y.length) = decide ((3000 : Int) < (y.length : Int)) by rw [decide_eq_decide]; omega); go_enter Tryz.func129, Tryz.ntmps129; go_wp2_with (first | (go_at_call 130; (with_reducible refine (AC.out _).mono ?_); rintro e w1 ⟨rfl, hb1⟩; obtain ⟨l1, x1, y1⟩ := hB0.of_bl hb1) | (go_at_call 131; (with_reducible refine (LC.out _).mono ?_); rintro e w2 ⟨rfl, rfl⟩) | (go_at_call 55; (with_reducible refine (IC.out _).mono ?_); rintro e w3 ⟨rfl, hb3⟩; obtain ⟨l3, x3, y3⟩ := (hB0.of_bl hb1).of_bl hb3)); go_ret; exact ⟨ret_bool (by rw [HB.out, hd.out]; simp), (((Bl.refl _).alloc _).trans hb1).trans hb3⟩
theorem cf_bad : ∀ (args : Array Value) (W : World), Sem.run Tryz.prog (callFunc 129 args) W = .ok (.enter 129 args) W := by
 intro args W; simp [callFunc, go_sem, Tryz.func129, Tryz.f129]
theorem cf_has : ∀ (args : Array Value) (W : World), Sem.run Tryz.prog (callFunc 164 args) W = .ok (.enter 164 args) W := by
 intro args W; simp [callFunc, go_sem, Tryz.func164, Tryz.f164]
theorem cf_safe : ∀ (args : Array Value) (W : World), Sem.run Tryz.prog (callFunc 127 args) W = .ok (.enter 127 args) W := by
 intro args W; simp [callFunc, go_sem, Tryz.func127, Tryz.f127]
def aD : Atr := ([], [])
theorem ats_hA {w : World} {ao : Option Addr} {cap : Nat} {l : List Atr} (hA : ∀ i (h : i < l.length), ∃ g o, ao = some ⟨g, o, none⟩ ∧ g < w.heap.size ∧ w.cell? ⟨g, o + i * 2, none⟩ = some (.string ⟨l[i].1.toArray⟩) ∧ w.cell? ⟨g, o + i * 2 + 1, none⟩ = some (.string ⟨l[i].2.toArray⟩)) (_hc : cap = cap) :
 ∀ i, i < l.length → ∃ g o, ao = some ⟨g, o, none⟩ ∧ g < w.heap.size ∧ w.cell? ⟨g, o + i * 2, none⟩ = some ((fun i => Value.string ⟨(l.getD i aD).1.toArray⟩) i) ∧ w.cell? ⟨g, o + i * 2 + 1, none⟩ = some ((fun i => Value.string ⟨(l.getD i aD).2.toArray⟩) i) := by
 intro i hi; obtain ⟨g, o, h1, h2, h3, h4⟩ := hA i hi; refine ⟨g, o, h1, h2, ?_, ?_⟩
 · show _ = some (Value.string ⟨(l.getD i aD).1.toArray⟩); rw [getD_get _ _ _ hi]; exact h3
 · show _ = some (Value.string ⟨(l.getD i aD).2.toArray⟩); rw [getD_get _ _ _ hi]; exact h4
theorem anyBad_c (n : Nm) (q : Nat) (l : List Atr) (v : Value) (hl : l.length ≤ 1099511627776) (ha : ∀ a ∈ l, a.2.length ≤ 1000000) (w : World) (hA : AtS w v l) (hq : B1 w q (.string ⟨n.toArray⟩)) :
 Calls Tryz.prog 128 #[v, .func (.func 129) #[] #[.pointer (some ⟨q, 0, none⟩)]] w fun e w' => e = .returned (.bool (l.any (badA n))) ∧ Bl w w' := by
 obtain ⟨ao, cap, rfl, hA⟩ := hA; rw [← any_range (badA n) l aD]; refine containsF_A _ _ cf_bad l.length cap ao _ _ (fun i => badA n (l.getD i aD)) hl w (ats_hA (cap := cap) hA rfl) (fun i hi W hb => ?_); exact badA_c n (l.getD i aD) q (by rw [getD_get _ _ _ hi]; exact ha _ (List.getElem_mem hi)) W (hq.of_bl hb)
theorem hasOne_c (s : Nm) (a : Atr) (q : Nat) (w : World) (hq : B1 w q (.string ⟨s.toArray⟩)) :
 Calls Tryz.prog 164 #[atV a, .pointer (some ⟨q, 0, none⟩)] w fun e w' => e = .returned (.bool (decide (a.1 = s))) ∧ Bl w w' := by
 obtain ⟨x, y⟩ := a; obtain ⟨hql, hqc⟩ := hq; unfold atV; go_enter Tryz.func164, Tryz.ntmps164; go_wp2; go_ret; exact ⟨ret_bool (by rw [Bool.eq_iff_iff, beq_iff_eq]; exact decide_eq_true_iff.symm), (Bl.refl _).alloc _⟩
theorem has_c (l : List Atr) (v : Value) (s : Nm) (hl : l.length ≤ 1099511627776) (w : World) (hA : AtS w v l) :
 Calls Tryz.prog 133 #[v, .string ⟨s.toArray⟩] w fun e w' => e = .returned (.bool (l.any fun a => decide (a.1 = s))) ∧ Bl w w' := by
 have hA1 := hA.of_bl ((Bl.refl _).alloc (.cells #[.string ⟨s.toArray⟩] 9)); obtain ⟨ao, cap, rfl, hA1⟩ := hA1; have CC := Lib.hid (containsF_A _ #[.pointer (some ⟨w.heap.size, 0, none⟩)] cf_has l.length cap ao _ _ (fun i => decide ((l.getD i aD).1 = s)) hl _ (ats_hA (cap := cap) hA1 rfl) (fun i _ W hb => hasOne_c s (l.getD i aD) w.heap.size W (B1.of_bl ⟨by simp, by simp⟩ hb))); rw [any_range (fun a : Atr => decide (a.1 = s)) l aD] at CC; clear hA hA1; go_enter Tryz.func133, Tryz.ntmps133; go_wp2_with (go_at_call 128; (with_reducible refine CC.out.mono ?_); rintro e w1 ⟨rfl, hb1⟩); go_ret; exact ⟨rfl, ((Bl.refl _).alloc _).trans hb1⟩
end Go.Proofs.YtamdlihgecpbkaaGreatDoor
namespace Go.Proofs.YtamdlihgecpbkaaGreatDoor
def smA (N : Nat) (a : Atr) : Prop := a.1.length ≤ N ∧ a.2.length ≤ 4 * N
def smT (N : Nat) (t : Tok) : Prop := t.2.1.length ≤ N ∧ t.2.2.1.length ≤ N ∧ (∀ a ∈ t.2.2.1, smA N a) ∧ t.2.2.2.length ≤ 4 * N
theorem tw_len {p : UInt8 → Bool} (l : List UInt8) : (l.takeWhile p).length ≤ l.length := (List.takeWhile_prefix p).length_le
theorem oneAt_small (c : UInt8) (r : List UInt8) (a : Atr) (u : List UInt8) (h : oneAt c r = some (a, u)) : smA (r.length + 1) a := by
 have h1 := tw_len (p := nch) r; have h2 := dw_len (p := nch) r; have h3 := dw_len (p := wht) (r.dropWhile nch); unfold oneAt at h; split at h
 · simp only [Option.some.injEq, Prod.mk.injEq] at h; obtain ⟨rfl, _⟩ := h; simp [smA, fold_len]; omega
 · rename_i d s e; rw [e] at h3; simp only [List.length_cons] at h3; split at h
   · split at h
     · cases h
     · rename_i v w e2; simp only [Option.some.injEq, Prod.mk.injEq] at h; obtain ⟨rfl, _⟩ := h; have h4 := (valOf_len _ _ _ e2).2; have h5 := Tk_len _ v (Nat.le_refl _); simp only [smA, fold_len, List.length_cons]; omega
   · simp only [Option.some.injEq, Prod.mk.injEq] at h; obtain ⟨rfl, _⟩ := h; simp [smA, fold_len]; omega
theorem addA_small (N : Nat) (out : List Atr) (a : Atr) (h : ∀ x ∈ out, smA N x) (ha : smA N a) : (∀ x ∈ addA out a, smA N x) ∧ (addA out a).length ≤ out.length + 1 := by
 unfold addA; split
 · refine ⟨fun x hx => ?_, by simp⟩; rcases List.mem_append.1 hx with hx | hx
   · exact h x hx
   · rw [List.mem_singleton.1 hx]; exact ha
 · exact ⟨h, by omega⟩
theorem smA_mono {N M : Nat} (h : N ≤ M) {a : Atr} (ha : smA N a) : smA M a := ⟨by have := ha.1; omega, by have := ha.2; omega⟩
theorem atF_small (N : Nat) (k : Nat) : ∀ (t : List UInt8) (out l : List Atr) (r : List UInt8), t.length ≤ N → (∀ x ∈ out, smA N x) → atF k t out = some (l, r) → (∀ x ∈ l, smA N x) ∧ l.length ≤ out.length + t.length := by
 induction k with
 | zero => intro t out l r _ _ h; cases h
 | succ k ih =>
   intro t out l r ht ho h; have h1 := dw_len (p := wsl) t; unfold atF at h; split at h
   · cases h
   · rename_i c s e; rw [e] at h1; simp only [List.length_cons] at h1; split at h
     · simp only [Option.some.injEq, Prod.mk.injEq] at h; obtain ⟨rfl, _⟩ := h; exact ⟨ho, by omega⟩
     · split at h
       · cases h
       · rename_i a u e2; have h2 := oneAt_len _ _ _ _ e2; have h3 := smA_mono (show s.length + 1 ≤ N by omega) (oneAt_small _ _ _ _ e2); have h4 := addA_small N out a ho h3; have h5 := ih u (addA out a) l r (by omega) h4.1 h; exact ⟨h5.1, by have := h5.2; have := h4.2; omega⟩
theorem tagP_small (r u : List UInt8) (t : Tok) (h : tagP r = some (some (some t, u))) : smT r.length t := by
 unfold tagP at h; split at h
 · cases h
 · rename_i c s; split at h
   · cases e : atP ((c :: s).dropWhile tch) [] with
     | none => rw [e] at h; simp at h
     | some x =>
       rw [e] at h; simp only [Option.map_some, Option.some.injEq, Prod.mk.injEq] at h; obtain ⟨rfl, _⟩ := h; have h1 := dw_len (p := tch) (c :: s); have h2 := tw_len (p := tch) (c :: s); have h3 := atF_small (c :: s).length _ _ [] x.1 x.2 h1 (by simp) e; refine ⟨by rw [fold_len]; exact h2, ?_, h3.1, by simp⟩; have := h3.2; simp only [List.length_nil] at this; show x.1.length ≤ _; omega
   split at h
   · cases e : cutS [62] (s.dropWhile tch) with
     | none => rw [e] at h; simp at h
     | some x =>
       rw [e] at h; simp only [Option.map_some, Option.some.injEq, Prod.mk.injEq] at h; obtain ⟨rfl, _⟩ := h; have h2 := tw_len (p := tch) s; exact ⟨by rw [fold_len]; simp only [List.length_cons]; omega, by simp, by simp, by simp⟩
   split at h
   · cases e : cutS [45, 45, 62] s with
     | none => rw [e] at h; simp at h
     | some x => rw [e] at h; simp at h
   split at h
   · cases e : cutS [62] (c :: s) with
     | none => rw [e] at h; simp at h
     | some x => rw [e] at h; simp at h
   · cases h
theorem smT_mono {N M : Nat} (h : N ≤ M) {t : Tok} (ha : smT N t) : smT M t :=
 ⟨by have := ha.1; omega, by have := ha.2.1; omega, fun a h2 => smA_mono h (ha.2.2.1 a h2), by have := ha.2.2.2; omega⟩
theorem flsh_small (N : Nat) (x : List UInt8) (l : List Tok) (hx : x.length ≤ N) (h : ∀ t ∈ l, smT N t) : ∀ t ∈ flsh x l, smT N t := by
 unfold flsh; split
 · exact h
 · intro t ht; rcases List.mem_append.1 ht with ht | ht
   · exact h t ht
   · rw [List.mem_singleton.1 ht]; have := Tk_len _ x (Nat.le_refl _); exact ⟨by simp, by simp, by simp, by simp only []; omega⟩
theorem tkF_small (N : Nat) (k : Nat) : ∀ (s text : List UInt8) (out : List Tok), s.length + text.length ≤ N → (∀ t ∈ out, smT N t) → ∀ t ∈ tkF k s text out, smT N t := by
 induction k with
 | zero => intro s text out h ho; exact flsh_small N text out (by omega) ho
 | succ k ih =>
   intro s text out h ho; cases s with
   | nil => exact flsh_small N text out (by omega) ho
   | cons c r =>
     simp only [List.length_cons] at h; unfold tkF; split
     · split
       · exact ih r _ out (by simp; omega) ho
       · exact flsh_small N _ out (by simp; omega) ho
       · rename_i u e; have := tagP_len _ _ _ e; exact ih u text out (by omega) ho
       · rename_i t u e; have h1 := tagP_len _ _ _ e; have h2 := smT_mono (show r.length ≤ N by omega) (tagP_small _ _ _ e); split
         · refine ih u [] _ (by simp; omega) ?_; intro x hx; rcases List.mem_append.1 hx with hx | hx
           · exact flsh_small N text out (by omega) ho x hx
           · rw [List.mem_singleton.1 hx]; exact h2
         · exact ih u text out (by omega) ho
     · exact ih r _ out (by simp; omega) ho
theorem TokL_small (s : List UInt8) (h : s.length ≤ 3000) : ∀ t ∈ TokL s, smT 3000 t := tkF_small 3000 _ s [] [] (by simpa using h) (by simp)
end Go.Proofs.YtamdlihgecpbkaaGreatDoor
namespace Go.Proofs.YtamdlihgecpbkaaGreatDoor
open Go.RowKit
def wA (a : Atr) : Nat := a.1.length + 6 * a.2.length + 4
def wT (t : Tok) : Nat := t.2.1.length + szA t.2.2.1 + 6 * t.2.2.2.length + 5
theorem szA_snoc (l : List Atr) (a : Atr) : szA (l ++ [a]) = szA l + wA a := by simp [szA, wA]
theorem szT_snoc (l : List Tok) (t : Tok) : szT (l ++ [t]) = szT l + wT t := by simp [szT, wT]
theorem tw_dw {p : UInt8 → Bool} (l : List UInt8) : (l.takeWhile p).length + (l.dropWhile p).length = l.length := by
 rw [← List.length_append, List.takeWhile_append_dropWhile]
theorem valOf_sum (t v u : List UInt8) (h : valOf t = some (v, u)) : v.length + u.length ≤ t.length := by
 have h1 := dw_len (p := wht) t; unfold valOf at h; split at h
 · simp only [Option.some.injEq, Prod.mk.injEq] at h; obtain ⟨rfl, rfl⟩ := h; simp
 · rename_i q r e; rw [e] at h1; simp only [List.length_cons] at h1; split at h
   · have h2 := tw_dw (p := (· != q)) r; split at h
     · cases h
     · rename_i x s e2; rw [e2] at h2; simp only [Option.some.injEq, Prod.mk.injEq] at h; obtain ⟨rfl, rfl⟩ := h; simp only [List.length_cons] at h2; omega
   · simp only [Option.some.injEq, Prod.mk.injEq] at h; obtain ⟨rfl, rfl⟩ := h; have h2 := tw_dw (p := vch) (q :: r); simp only [List.length_cons] at h2 ⊢; omega
theorem oneAt_sum (c : UInt8) (r : List UInt8) (a : Atr) (u : List UInt8) (h : oneAt c r = some (a, u)) : wA a + 29 * u.length ≤ 29 * (r.length + 1) := by
 have h1 := tw_dw (p := nch) r; have h2 := dw_len (p := wht) (r.dropWhile nch); unfold oneAt at h; split at h
 · simp only [Option.some.injEq, Prod.mk.injEq] at h; obtain ⟨rfl, rfl⟩ := h; simp [wA, fold_len]; omega
 · rename_i d s e; rw [e] at h2; simp only [List.length_cons] at h2; split at h
   · split at h
     · cases h
     · rename_i v w e2; simp only [Option.some.injEq, Prod.mk.injEq] at h; obtain ⟨rfl, rfl⟩ := h; have h4 := valOf_sum _ _ _ e2; have h5 := Tk_len _ v (Nat.le_refl _); simp only [wA, fold_len, List.length_cons]; omega
   · simp only [Option.some.injEq, Prod.mk.injEq] at h; obtain ⟨rfl, rfl⟩ := h; simp [wA, fold_len]; omega
theorem addA_sum (out : List Atr) (a : Atr) : szA (addA out a) ≤ szA out + wA a := by
 unfold addA; split
 · rw [szA_snoc]; omega
 · omega
theorem atF_sum (k : Nat) : ∀ (t : List UInt8) (out l : List Atr) (r : List UInt8), atF k t out = some (l, r) → szA l + 29 * r.length ≤ szA out + 29 * t.length := by
 induction k with
 | zero => intro t out l r h; cases h
 | succ k ih =>
   intro t out l r h; have h1 := dw_len (p := wsl) t; unfold atF at h; split at h
   · cases h
   · rename_i c s e; rw [e] at h1; simp only [List.length_cons] at h1; split at h
     · simp only [Option.some.injEq, Prod.mk.injEq] at h; obtain ⟨rfl, rfl⟩ := h; omega
     · split at h
       · cases h
       · rename_i a u e2; have h2 := oneAt_sum _ _ _ _ e2; have h3 := addA_sum out a; have h4 := ih u _ l r h; omega
theorem tagP_sum (r u : List UInt8) (t : Tok) (h : tagP r = some (some (some t, u))) : wT t + 29 * u.length ≤ 29 * r.length + 29 := by
 unfold tagP at h; split at h
 · cases h
 · rename_i c s; have h1 := tw_dw (p := tch) (c :: s); have h2 := tw_dw (p := tch) s; split at h
   · cases e : atP ((c :: s).dropWhile tch) [] with
     | none => rw [e] at h; simp at h
     | some x =>
       rw [e] at h; simp only [Option.map_some, Option.some.injEq, Prod.mk.injEq] at h; obtain ⟨rfl, rfl⟩ := h; obtain ⟨xl, xr⟩ := x; have := atF_sum _ _ _ _ _ e; simp only [szA, List.map_nil, List.sum_nil] at this; simp only [wT, fold_len, szA, List.length_cons, List.length_nil] at *; omega
   split at h
   · cases e : cutS [62] (s.dropWhile tch) with
     | none => rw [e] at h; simp at h
     | some x =>
       rw [e] at h; simp only [Option.map_some, Option.some.injEq, Prod.mk.injEq] at h; obtain ⟨rfl, rfl⟩ := h; have := cutS_len [62] (by simp) _ _ e; simp only [wT, fold_len, szA, List.map_nil, List.sum_nil, List.length_cons, List.length_nil] at *; omega
   split at h
   · cases e : cutS [45, 45, 62] s with
     | none => rw [e] at h; simp at h
     | some x => rw [e] at h; simp at h
   split at h
   · cases e : cutS [62] (c :: s) with
     | none => rw [e] at h; simp at h
     | some x => rw [e] at h; simp at h
   · cases h
theorem flsh_sum (x : List UInt8) (l : List Tok) : szT (flsh x l) ≤ szT l + 29 * x.length := by
 unfold flsh; split
 · omega
 · rename_i h; rw [szT_snoc]; have h1 := Tk_len _ x (Nat.le_refl _); have h2 : 0 < x.length := by
    rcases Nat.eq_zero_or_pos x.length with e | e
    · rw [e] at h1; exact absurd (List.eq_nil_of_length_eq_zero (by omega)) h
    · exact e
   simp only [wT, szA, List.map_nil, List.sum_nil, List.length_nil]; omega
theorem tkF_sum (k : Nat) : ∀ (s text : List UInt8) (out : List Tok), szT (tkF k s text out) ≤ szT out + 29 * (text.length + s.length) := by
 induction k with
 | zero => intro s text out; have := flsh_sum text out; unfold tkF; omega
 | succ k ih =>
   intro s text out; cases s with
   | nil => have := flsh_sum text out; unfold tkF; simp only [List.length_nil]; omega
   | cons c r =>
     simp only [List.length_cons]; unfold tkF; split
     · split
       · have := ih r (text ++ [60]) out; simp only [List.length_append, List.length_cons, List.length_nil] at this; omega
       · have := flsh_sum (text ++ 60 :: r) out; simp only [List.length_append, List.length_cons] at this; omega
       · rename_i u e; have h1 := tagP_len _ _ _ e; have := ih u text out; omega
       · rename_i t u e; have h1 := tagP_len _ _ _ e; have h2 := tagP_sum _ _ _ e; split
         · have h3 := ih u [] (flsh text out ++ [t]); have h4 := flsh_sum text out; rw [szT_snoc] at h3; simp only [List.length_nil] at h3; omega
         · have := ih u text out; omega
     · have := ih r (text ++ [c]) out; simp only [List.length_append, List.length_cons, List.length_nil] at this; omega
theorem TokL_sum (s : List UInt8) : szT (TokL s) ≤ 29 * s.length := by
 have := tkF_sum s.length s [] []; have e : szT [] = 0 := rfl; rw [e] at this; simp only [List.length_nil] at this; show szT (tkF s.length s [] []) ≤ _; omega
theorem safN_mk (d : Nd) : safN d = !(decide (d.n ≠ []) && (!alwN d.n || d.a.any (badA d.n) || decide (d.n = sImg) && !hasS d.a) || !safL d.k) := by
 cases d; rw [safN]; rfl
theorem safL_all (l : List Nd) : safL l = l.all safN := by
 induction l with
 | nil => rw [safL]; rfl
 | cons d l ih => rw [safL, ih]; rfl
theorem wtA_val {l : List Atr} {a : Atr} (h : a ∈ l) : a.2.length ≤ wtA l := by
 induction l with
 | nil => simp at h
 | cons b l ih =>
   rcases List.mem_cons.1 h with rfl | h
   · simp only [wtA, List.map_cons, List.sum_cons]; omega
   · have := ih h; simp only [wtA, List.map_cons, List.sum_cons] at *; omega
theorem safe1_c (d : Nd) (va vk : Value) (w : World) (hl : d.a.length ≤ 1099511627776) (ha : ∀ a ∈ d.a, a.2.length ≤ 1000000) (hA : AtS w va d.a) (hk : ∃ a n c, vk = .slice a n c)
 (hS : ∀ W, Bl w W → Calls Tryz.prog 90 #[vk] W fun e w' => e = .returned (.bool (safL d.k)) ∧ Bl W w') :
 Calls Tryz.prog 127 #[.agg #[.string ⟨d.n.toArray⟩, va, .string ⟨d.x.toArray⟩, vk]] w fun e w' => e = .returned (.bool (!safN d)) ∧ Bl w w' := by
 have HR := Lib.hid (show (!safN d) = (decide (d.n ≠ []) && (!alwN d.n || d.a.any (badA d.n) || decide (d.n = sImg) && !hasS d.a) || !safL d.k) by rw [safN_mk, Bool.not_not]); obtain ⟨ak, nk, ck, rfl⟩ := hk; have hA' := hA; obtain ⟨ao, cap, rfl, -⟩ := hA'; have hN0 := B4.new w (.string ⟨d.n.toArray⟩) (.slice ao d.a.length cap) (.string ⟨d.x.toArray⟩) (.slice ak nk ck) 76; have hN1 : B1 (w.alloc (.cells #[.string ⟨d.n.toArray⟩, .slice ao d.a.length cap, .string ⟨d.x.toArray⟩, .slice ak nk ck] 76)) w.heap.size (.string ⟨d.n.toArray⟩) := ⟨hN0.1, hN0.2.1⟩; have CC := Lib.hid (anyBad_c d.n w.heap.size d.a _ hl ha _ (hA.of_bl ((Bl.refl _).alloc (.cells #[.string ⟨d.n.toArray⟩, .slice ao d.a.length cap, .string ⟨d.x.toArray⟩, .slice ak nk ck] 76))) hN1); have SC := Lib.hid hS; have AC := Lib.hid (fun W => allowed_c d.n W); have KC := Lib.hid (fun W (hb : Bl w W) => has_c d.a _ sSrc hl W (hA.of_bl hb)); have hb0 : Bl w (w.alloc (.cells #[.string ⟨d.n.toArray⟩, .slice ao d.a.length cap, .string ⟨d.x.toArray⟩, .slice ak nk ck] 76)) := (Bl.refl _).alloc _; obtain ⟨n, hn⟩ : ∃ n, n = d.n := ⟨_, rfl⟩; obtain ⟨sk, hsk⟩ : ∃ sk, sk = safL d.k := ⟨_, rfl⟩; obtain ⟨bd, hbd⟩ : ∃ bd, bd = d.a.any (badA d.n) := ⟨_, rfl⟩; obtain ⟨x, hx⟩ : ∃ x, x = d.x := ⟨_, rfl⟩; rw [← hbd] at CC HR; rw [← hsk] at SC HR; rw [← hx] at CC hN0 hN1 hb0 ⊢; rw [← hn] at HR hN0 hN1 CC AC hb0 ⊢; unfold hasS at HR; obtain ⟨hs, hhs⟩ : ∃ hs, hs = d.a.any fun a => decide (a.1 = sSrc) := ⟨_, rfl⟩
 rw [← hhs] at KC HR; obtain ⟨m, hm⟩ : ∃ m, m = d.a.length := ⟨_, rfl⟩; rw [← hm] at CC KC hN0 hN1 hb0 ⊢; unfold sSrc at KC; clear hn hsk hbd hx hhs hm hA hS ha hl hN1; by_cases h0 : n = []
 · subst h0; cases bd <;>
   · go_enter Tryz.func127, Tryz.ntmps127; go_wp2_with (first | (go_at_call 128; (with_reducible refine CC.out.mono ?_); rintro e w1 ⟨rfl, hb1⟩; obtain ⟨l1, x1, y1, z1, u1⟩ := hN0.of_bl hb1; have hB1 := hb0.trans hb1) | (go_at_call 90; (with_reducible refine (SC.out _ hB1).mono ?_); rintro e w2 ⟨rfl, hb2⟩)); go_ret; exact ⟨ret_bool (by rw [HR.out]; rfl), hB1.trans hb2⟩
 · have h0' : (n.isEmpty) = false := by cases n <;> simp_all
   have HR1 := Lib.hid (show decide (n ≠ []) = true from decide_eq_true h0); clear h0; cases hal : alwN n with
   | false =>
     rw [hal] at AC HR; clear hal; cases bd <;>
     · go_enter Tryz.func127, Tryz.ntmps127; go_wp2_with (first | (go_at_call 128; (with_reducible refine CC.out.mono ?_); rintro e w1 ⟨rfl, hb1⟩; obtain ⟨l1, x1, y1, z1, u1⟩ := hN0.of_bl hb1; have hB1 := hb0.trans hb1) | (go_at_call 132; (with_reducible refine (AC.out _).mono ?_); rintro e w2 ⟨rfl, hb2⟩; obtain ⟨l2, x2, y2, z2, u2⟩ := (hN0.of_bl hb1).of_bl hb2)); go_ret; exact ⟨ret_bool (by rw [HR.out, HR1.out]; rfl), hB1.trans hb2⟩
   | true =>
     rw [hal] at AC HR; clear hal; cases bd with
     | true =>
       go_enter Tryz.func127, Tryz.ntmps127; go_wp2_with (first | (go_at_call 128; (with_reducible refine CC.out.mono ?_); rintro e w1 ⟨rfl, hb1⟩; obtain ⟨l1, x1, y1, z1, u1⟩ := hN0.of_bl hb1; have hB1 := hb0.trans hb1) | (go_at_call 132; (with_reducible refine (AC.out _).mono ?_); rintro e w2 ⟨rfl, hb2⟩; obtain ⟨l2, x2, y2, z2, u2⟩ := (hN0.of_bl hb1).of_bl hb2)); go_ret; exact ⟨ret_bool (by rw [HR.out, HR1.out]; rfl), hB1.trans hb2⟩
     | false =>
       by_cases him : n = sImg
       · subst him; unfold sImg at *; cases hs with
         | false =>
           go_enter Tryz.func127, Tryz.ntmps127; go_wp2_with (first | (go_at_call 128; (with_reducible refine CC.out.mono ?_); rintro e w1 ⟨rfl, hb1⟩; obtain ⟨l1, x1, y1, z1, u1⟩ := hN0.of_bl hb1; have hB1 := hb0.trans hb1) | (go_at_call 132; (with_reducible refine (AC.out _).mono ?_); rintro e w2 ⟨rfl, hb2⟩; obtain ⟨l2, x2, y2, z2, u2⟩ := (hN0.of_bl hb1).of_bl hb2; have hB2 := hB1.trans hb2) | (go_at_call 133; (with_reducible refine (KC.out _ hB2).mono ?_); rintro e w3 ⟨rfl, hb3⟩; obtain ⟨l3, x3, y3, z3, u3⟩ := ((hN0.of_bl hb1).of_bl hb2).of_bl hb3; have hB3 := hB2.trans hb3)); go_ret; exact ⟨ret_bool (by rw [HR.out, HR1.out]; rfl), hB3⟩
         | true =>
           go_enter Tryz.func127, Tryz.ntmps127; go_wp2_with (first | (go_at_call 128; (with_reducible refine CC.out.mono ?_); rintro e w1 ⟨rfl, hb1⟩; obtain ⟨l1, x1, y1, z1, u1⟩ := hN0.of_bl hb1; have hB1 := hb0.trans hb1) | (go_at_call 132; (with_reducible refine (AC.out _).mono ?_); rintro e w2 ⟨rfl, hb2⟩; obtain ⟨l2, x2, y2, z2, u2⟩ := (hN0.of_bl hb1).of_bl hb2; have hB2 := hB1.trans hb2) | (go_at_call 133; (with_reducible refine (KC.out _ hB2).mono ?_); rintro e w3 ⟨rfl, hb3⟩; obtain ⟨l3, x3, y3, z3, u3⟩ := ((hN0.of_bl hb1).of_bl hb2).of_bl hb3; have hB3 := hB2.trans hb3) | (go_at_call 90; (with_reducible refine (SC.out _ hB3).mono ?_); rintro e w4 ⟨rfl, hb4⟩)); go_ret; exact ⟨ret_bool (by rw [HR.out, HR1.out]; rfl), hB3.trans hb4⟩
       · have HI := Lib.hid (show decide (n = sImg) = false from decide_eq_false him); have him' : (n == [105, 109, 103]) = false := by simpa [sImg] using him
         clear him; go_enter Tryz.func127, Tryz.ntmps127; go_wp2_with (first | (go_at_call 128; (with_reducible refine CC.out.mono ?_); rintro e w1 ⟨rfl, hb1⟩; obtain ⟨l1, x1, y1, z1, u1⟩ := hN0.of_bl hb1; have hB1 := hb0.trans hb1) | (go_at_call 132; (with_reducible refine (AC.out _).mono ?_); rintro e w2 ⟨rfl, hb2⟩; obtain ⟨l2, x2, y2, z2, u2⟩ := (hN0.of_bl hb1).of_bl hb2; have hB2 := hB1.trans hb2) | (go_at_call 90; (with_reducible refine (SC.out _ hB2).mono ?_); rintro e w4 ⟨rfl, hb4⟩)); go_ret; exact ⟨ret_bool (by rw [HR.out, HR1.out, HI.out]; rfl), hB2.trans hb4⟩
def ndD : Nd := .mk [] [] [] []
theorem safe_c (N : Nat) : ∀ (l : List Nd) (v : Value) (P : Nat → Prop) (w : World), wtL l < N → N ≤ 1000000 → NdS w P v l →
 Calls Tryz.prog 90 #[v] w fun e w' => e = .returned (.bool (safL l)) ∧ Bl w w' := by
 induction N with
 | zero => intro l v P w h; omega
 | succ N ih =>
   intro l v P w hN hN2 hA; obtain ⟨ao, cap, rfl, hcap, hA⟩ := hA.get; have hll := cnt_len l; have hlc := wt_cnt l; have hsk : ∀ i, ∃ y : Value × Value, i < l.length → ∃ g o, ao = some ⟨g, o, none⟩ ∧ g < w.heap.size ∧ w.cell? ⟨g, o + i * 4, none⟩ = some (.string ⟨(l.getD i ndD).n.toArray⟩) ∧ w.cell? ⟨g, o + i * 4 + 1, none⟩ = some y.1 ∧
    w.cell? ⟨g, o + i * 4 + 2, none⟩ = some (.string ⟨(l.getD i ndD).x.toArray⟩) ∧ w.cell? ⟨g, o + i * 4 + 3, none⟩ = some y.2 ∧ AtP w P y.1 (l.getD i ndD).a ∧ NdS w P y.2 (l.getD i ndD).k := by
    intro i; by_cases hi : i < l.length
    · obtain ⟨g, o, va, vk, h1, h2, -, h3, h4, h5, h6, h7, h8⟩ := hA i hi; refine ⟨(va, vk), fun _ => ⟨g, o, h1, h2, ?_⟩⟩; rw [getD_get _ _ _ hi]; exact ⟨h3, h4, h5, h6, h7, h8⟩
    · exact ⟨(undef, undef), fun h => absurd h hi⟩
   obtain ⟨f, hf⟩ := Classical.skolem.1 hsk; have CC := Lib.hid (containsF_N _ #[] cf_safe l.length cap ao (fun i => .string ⟨(l.getD i ndD).n.toArray⟩) (fun i => (f i).1) (fun i => .string ⟨(l.getD i ndD).x.toArray⟩) (fun i => (f i).2) (fun i => !safN (l.getD i ndD)) (by omega) w
    (fun i hi => by obtain ⟨g, o, h1, h2, h3, h4, h5, h6, _⟩ := hf i hi; exact ⟨g, o, h1, h2, h3, h4, h5, h6⟩)
    (fun i hi W hb => by
     obtain ⟨g, o, h1, h2, h3, h4, h5, h6, h7, h8⟩ := hf i hi; have hwt := wt_get l i hi; have e : l.getD i ndD = l[i] := getD_get _ _ _ hi; have hwa := wtA_len l[i].a; refine safe1_c (l.getD i ndD) (f i).1 (f i).2 W (by rw [e]; omega) (fun a ha => ?_) (h7.ats.of_bl hb) (by obtain ⟨a, c, h, _⟩ := h8; exact ⟨a, _, c, h⟩) (fun W2 hb2 => ?_)
     · rw [e] at ha; have := wtA_val ha; omega
     · exact ih _ _ P W2 (by rw [e]; omega) (by omega) (h8.of_bl (hb.trans hb2))))
   have HX := Lib.hid (show ((List.range l.length).any fun i => !safN (l.getD i ndD)) = !safL l by
    rw [any_range (fun d => !safN d) l ndD, safL_all, Bool.eq_iff_iff, List.any_eq_true]; simp)
   rw [HX.out] at CC; clear hA hsk hf hN ih hll hlc; go_enter Tryz.func90, Tryz.ntmps90; go_wp2_with (go_at_call 126; (with_reducible refine CC.out.mono ?_); rintro e w1 ⟨rfl, hb1⟩); go_ret; exact ⟨rfl, hb1⟩
theorem flt_k3 (l : List Nd) : ∀ t ∈ fltL l, t.1 = 1 ∨ t.1 = 2 ∨ t.1 = 3 := by
 induction l using Nd.ind with
 | h0 => intro t ht; simp [fltL] at ht
 | h1 n a x k l ik il =>
   intro t ht; rw [fltL] at ht; rcases List.mem_append.1 ht with h | h
   · rw [fltN] at h; split at h
     · simp only [List.mem_singleton] at h; subst h; exact .inl rfl
     · rcases List.mem_cons.1 h with rfl | h
       · exact .inr (.inl rfl)
       · split at h
         · simp at h
         · rcases List.mem_append.1 h with h | h
           · exact ik t h
           · simp only [List.mem_singleton] at h; subst h; exact .inr (.inr rfl)
   · exact il t h
theorem str_eqb (a b : List UInt8) : (a == b) = decide (a = b) := by rw [Bool.eq_iff_iff, beq_iff_eq]; exact decide_eq_true_iff.symm
theorem stays'_c (s : List UInt8) (w : World) (hE : ES w) (hM : ML w) :
 Calls Tryz.prog 56 #[.string ⟨s.toArray⟩] w fun e w' => e = .returned (.bool (stayU s)) ∧ Bl w w' := by
 by_cases h3 : 3000 < s.length
 · have HR := Lib.hid (show stayU s = false by unfold stayU; rw [decide_eq_false (by omega)]; rfl); have h3' : (3000 : Int) < (s.length : Int) := by omega
   clear h3; go_enter Tryz.func56, Tryz.ntmps56; go_wp2; go_ret; exact ⟨ret_bool (by rw [HR.out]), Bl.refl _⟩
 · have hs3 : s.length ≤ 3000 := by omega
   have HR := Lib.hid (show stayU s = (safL (ofM (TokL s)) && decide (tksW (fltL (ofM (TokL s))) = s)) by unfold stayU; rw [decide_eq_true hs3]; rfl); have h3' : ¬ (3000 : Int) < (s.length : Int) := by omega
   have h0 := TokL_ck s hs3; have hsz := TokL_sum s; have hck := ckE_all h0; have hwt := wt_ofM (TokL s); have hszt := sz_flt (ofM (TokL s)); have AC := Lib.hid (fun W (h1 : ES W) (h2 : ML W) => all_c s W (by omega) h1 h2); have OC := Lib.hid (fun v W (h : TkS W v (TokL s)) => of_c (TokL s) v W h hck.2 hck.1 (by have := txB_sz (TokL s); omega) (fun t ht => by have := (TokL_small s hs3 t ht).2.1; omega)); have SC := Lib.hid (fun v P W (h : NdS W P v (ofM (TokL s))) => safe_c 1000000 (ofM (TokL s)) v P W (by omega) (by omega) h); have TC := Lib.hid (fun v P W (h : NdS W P v (ofM (TokL s))) => toks_c 1000000 (ofM (TokL s)) v P W (by omega) (by omega) h); have hk3 := flt_k3 (ofM (TokL s)); have BC := Lib.hid (fun v W (h : TkS W v (fltL (ofM (TokL s)))) => bytes_c (fltL (ofM (TokL s))) v (by omega) (by have := flt_len (ofM (TokL s)); have := wt_cnt (ofM (TokL s)); omega) hk3 W h); obtain ⟨B, hB⟩ : ∃ B, B = tksW (fltL (ofM (TokL s))) := ⟨_, rfl⟩; obtain ⟨sf, hsf⟩ : ∃ sf, sf = safL (ofM (TokL s)) := ⟨_, rfl⟩; rw [← hB] at BC HR; rw [← hsf] at SC HR; have HB := Lib.hid (str_eqb B s); obtain ⟨q, hq⟩ : ∃ q, q = decide (B = s) := ⟨_, rfl⟩; rw [← hq] at HB HR; clear h3 hs3 h0 hsz hck hwt hszt hk3 hB hsf hq; have hbs := HB.out; cases sf with
   | false =>
     go_enter Tryz.func56, Tryz.ntmps56; go_wp2_with (first | (go_at_call 48; (with_reducible refine (AC.out _ hE hM).mono ?_); rintro e w1 ⟨v1, rfl, hT1', hb1⟩; have hT1 := hT1'.tks; clear hT1') | (go_at_call 47; (with_reducible refine (OC.out _ _ hT1).mono ?_); rintro e w2 ⟨v2, rfl, ⟨Q2, hN2⟩, hb2⟩) | (go_at_call 90; (with_reducible refine (SC.out _ _ _ hN2).mono ?_); rintro e w3 ⟨rfl, hb3⟩)); go_ret; exact ⟨ret_bool (by rw [HR.out]; rfl), (hb1.trans hb2).trans hb3⟩
   | true =>
     go_enter Tryz.func56, Tryz.ntmps56; go_wp2_with (first | (go_at_call 48; (with_reducible refine (AC.out _ hE hM).mono ?_); rintro e w1 ⟨v1, rfl, hT1', hb1⟩; have hT1 := hT1'.tks; clear hT1') | (go_at_call 47; (with_reducible refine (OC.out _ _ hT1).mono ?_); rintro e w2 ⟨v2, rfl, ⟨Q2, hN2⟩, hb2⟩) | (go_at_call 90; (with_reducible refine (SC.out _ _ _ hN2).mono ?_); rintro e w3 ⟨rfl, hb3⟩; have hN3 := hN2.of_bl hb3) | (go_at_call 92; (with_reducible refine (TC.out _ _ _ hN3).mono ?_); rintro e w4 ⟨v4, rfl, hT4', hb4⟩; have hT4 := hT4'.tks; clear hT4') | (go_at_call 91; (with_reducible refine (BC.out _ _ hT4).mono ?_); rintro e w5 ⟨rfl, hb5⟩)); go_ret; exact ⟨ret_bool (by rw [HR.out]; rfl), (((hb1.trans hb2).trans hb3).trans hb4).trans hb5⟩
end Go.Proofs.YtamdlihgecpbkaaGreatDoor

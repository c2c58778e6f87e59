/- Trees: slices.Clone of attributes; put of a text. · Trees: a row appended to an own row; attributes cloned as an own row. · Trees: Size of the program; count of the reference. · Tokens: SameTokens. · Trees: SameNodes of the reference. · Trees: Tokens. -/
import Derived.Test.YtamdlihgecpbkaaGreatDoorTreJ
import Derived.Test.YtamdlihgecpbkaaGreatDoorTreIb
import Derived.Test.YtamdlihgecpbkaaGreatDoorTreIc
import Derived.Test.YtamdlihgecpbkaaGreatDoorTokI
import Derived.Test.YtamdlihgecpbkaaGreatDoorGrpG
import Derived.Laws.OwnMore
import Derived.Test.YtamdlihgecpbkaaGreatDoorGrpF
import Derived.Test.YtamdlihgecpbkaaGreatDoorGrpH
import Derived.Test.YtamdlihgecpbkaaGreatDoorGrpK
import Derived.Deep.CutBlock
import Derived.BigRegion
set_option maxRecDepth 100000
set_option maxHeartbeats 8000000
namespace Go.Proofs.YtamdlihgecpbkaaGreatDoor
open Go.RowKit
theorem add_spot (g o j : Nat) : (⟨g, o, none⟩ : Addr).add j = ⟨g, o + j, none⟩ := by unfold Addr.add; split <;> simp_all
theorem atC_at : ∀ (l : List Atr) (j : Nat) (u : Value), (atC l)[j]? = some u → ∃ i, ∃ h : i < l.length, (j = i * 2 ∧ u = .string ⟨l[i].1.toArray⟩) ∨ (j = i * 2 + 1 ∧ u = .string ⟨l[i].2.toArray⟩) := by
 intro l; induction l with
 | nil => intro j u h; simp [atC] at h
 | cons a l ih =>
   intro j u h; have e : atC (a :: l) = .string ⟨a.1.toArray⟩ :: .string ⟨a.2.toArray⟩ :: atC l := rfl; rw [e] at h; match j, h with
   | 0, h => exact ⟨0, by simp, .inl ⟨rfl, by simpa using h.symm⟩⟩
   | 1, h => exact ⟨0, by simp, .inr ⟨rfl, by simpa using h.symm⟩⟩
   | j + 2, h =>
     obtain ⟨i, hi, h2⟩ := ih j u (by simpa using h); refine ⟨i + 1, by simp; omega, ?_⟩; rcases h2 with ⟨e1, e2⟩ | ⟨e1, e2⟩
     · exact .inl ⟨by omega, by simpa using e2⟩
     · exact .inr ⟨by omega, by simpa using e2⟩
theorem atC_one (l : List Atr) : ∀ u ∈ atC l, u.oneCell' = true := by
 intro u hu; obtain ⟨j, hj, rfl⟩ := List.mem_iff_getElem.1 hu; obtain ⟨i, hi, h⟩ := atC_at l j _ (List.getElem?_eq_getElem hj); rcases h with ⟨_, e⟩ | ⟨_, e⟩ <;> rw [e] <;> rfl
theorem ats_news {w : World} {g o c : Nat} {l : List Atr} (h : AtS w (.slice (some ⟨g, o, none⟩) l.length c) l) : ∀ j u, (atC l)[j]? = some u → w.cell? ((⟨g, o, none⟩ : Addr).add j) = some u := by
 intro j u hj; obtain ⟨ao, cap, e, h⟩ := h; cases e; rw [add_spot]; obtain ⟨i, hi, h2⟩ := atC_at l j u hj; obtain ⟨g', o', e, _, h3, h4⟩ := h i hi; cases e; rcases h2 with ⟨rfl, rfl⟩ | ⟨rfl, rfl⟩
 · exact h3
 · rw [← Nat.add_assoc]; exact h4
theorem AtO.atp {w : World} {base : Nat} {v : Value} {l : List Atr} (h : AtO w base v l) : AtP w (fun k => base ≤ k ∧ k < w.heap.size) v l := by
 have h2 := h.ats; obtain ⟨ao, cap, rfl, hc⟩ := h2; have hcap : l.length ≤ cap := by
  rcases h.2 with ⟨e, h0⟩ | ⟨g, cap', cur, e, _, _, hnc, _⟩
  · simp only [Value.slice.injEq] at e; omega
  · simp only [Value.slice.injEq] at e; omega
 refine ⟨ao, cap, rfl, hcap, fun i hi => ?_⟩; obtain ⟨g, o, rfl, h3, h4, h5⟩ := hc i hi; exact ⟨g, o, rfl, h3, ⟨((World.ownsRow.lt h) g rfl).1, h3⟩, h4, h5⟩
theorem clone_c (l : List Atr) (v : Value) (hl : l.length ≤ 100000000) (w : World) (hA : AtS w v l) :
 Calls Tryz.prog 118 #[v] w fun e w' => ∃ ao c, e = .returned (.slice ao l.length c) ∧ AtP w' (fun k => w.heap.size ≤ k ∧ k < w'.heap.size) (.slice ao l.length c) l ∧ Bl w w' := by
 obtain ⟨i0, hi, hz0, hz1, hz2⟩ := info_parts Tryz.infoAtr; have hA' := hA; obtain ⟨ao, cap, rfl, hA⟩ := hA; have hnil := fun (W : World) (a : Option Addr) (n c : Nat) => Lib.run_eql_slice_nil (P := Tryz.prog) W 74 123 a n c 0 0 Tryz.underlying74
 cases ao with
 | none =>
   have h0 : l = [] := by
    rcases l with _ | ⟨a, l⟩
    · rfl
    · obtain ⟨g, o, e, _⟩ := hA 0 (by simp); cases e
   subst h0; clear hA hA'; go_enter Tryz.func118, Tryz.ntmps118; go_wp2; go_ret; exact ⟨none, 0, rfl, AtP.nil _ _, Bl.refl _⟩
 | some a =>
   by_cases h0 : l = []
   · subst h0; clear hA hA'; go_enter Tryz.func118, Tryz.ntmps118; go_wp2; go_ret; exact ⟨some ⟨w.heap.size, 0, none⟩, 0, rfl, ⟨_, _, rfl, Nat.le_refl _, fun i hi => by simp at hi⟩, (Bl.refl _).alloc _⟩
   · have hpos := List.length_pos_iff.2 h0; obtain ⟨g, o, e, _⟩ := hA 0 hpos; cases e; have HN := Lib.hid hA'; clear hA hA' h0; go_enter Tryz.func118, Tryz.ntmps118; go_wp2_with (first | (at_builtin; (refine wpList_append_own _ rfl _ _ 74 rfl w.heap.size 123 i0 (.agg #[.string ⟨#[]⟩, .string ⟨#[]⟩]) 2 32 Tryz.underlying74 hi hz0 hz1 hz2 rfl (by decide) (.slice (some ⟨w.heap.size, 0, none⟩) 0 0) 0 [] rfl (World.ownsRow_made (base := w.heap.size) (e := 123) (size := 2) w #[] 0 (Nat.le_refl _) (by decide) rfl) ⟨g, o, none⟩ l.length cap (atC l) rfl (atC_len l) (ats_news (HN.out.of_bl ((Bl.refl _).alloc _))) (atC_one l) (by unfold maxLen; omega) (by omega) (by simp) ?_))); intro v' wz hown' hgrow _; have hbz : Bl w wz := Below.trans ((Bl.refl w).alloc _) (bel_gr hgrow (fun j hj => by simp only [Value.ownBlock, Option.some.injEq] at hj; omega) (by simp)); have HO := Lib.hid hown'; obtain ⟨ao, c, rfl, -⟩ := own_shp hown'; clear hgrow hown'; go_wp2; go_ret; exact ⟨ao, c, rfl, AtO.atp HO.out, hbz⟩
theorem iv_lsX {s : St} (h : Iv s) : ∃ r, ckL r false (lsX s.1 s.2) = 0 := by
 obtain ⟨r, f⟩ := s; cases f with
 | nil => exact ⟨_, h.2.1⟩
 | cons c f => obtain ⟨n, a, k⟩ := c; exact ⟨_, h.1.2.2.2.2.2.1⟩
theorem ntx_lsX (s : St) : (ntxL (lsX s.1 s.2)).length ≤ (ntxS s).length := by
 obtain ⟨r, f⟩ := s; cases f with
 | nil => simp [lsX, ntxS]
 | cons c f => obtain ⟨n, a, k⟩ := c; simp [lsX, ntxS, ntxF]; omega
theorem put_tx (base b : Nat) (P : Nat → Prop) (s : St) (x : List UInt8) (w : World) (hB : BdS w base b P s) (hbw : base ≤ w.heap.size) (hI : Iv s) (hc : cntS s ≤ 100000) (ht : (ntxS s).length + x.length ≤ 1099511627776) :
 Calls Tryz.prog 115 #[.pointer (some ⟨b, 0, none⟩), .agg #[.string ⟨#[]⟩, .slice none 0 0, .string ⟨x.toArray⟩, .slice none 0 0]] w fun e w' => e = .returned (.tuple #[]) ∧ BdS w' base b P (put s (.mk [] [] x [])) ∧ Below base w w' ∧ Still P w w' := by
 have h8 := iv_len hI.1; have hlx : (lsX s.1 s.2).length ≤ 1000000 := by have := lsX_le s.1 s.2; show _ ≤ _; have e : cntS (s.1, s.2) = cntS s := rfl; omega
 rcases List.eq_nil_or_concat (lsX s.1 s.2) with h0 | ⟨o, c, h0⟩
 · exact put_cC base b P s (.mk [] [] x []) _ _ w hB (AtP.nil _ _) (NdS.nil _ _) hbw hlx (by omega) rfl h0
 · rw [List.concat_eq_append] at h0; by_cases hn : c.n = []
   · obtain ⟨r, hr⟩ := iv_lsX hI; rw [h0] at hr; obtain ⟨-, g1⟩ := ckL_init r o false c hr; cases c with
     | mk n a t k =>
       simp only [Nd.n] at hn; subst hn; obtain ⟨g2, -, -⟩ := ckN_mk g1; obtain ⟨-, rfl, rfl⟩ := ndE_tx g2; have := ntx_lsX s; rw [h0, ntx_app] at this; simp only [List.length_append, ntxL, ntxN, List.length_nil] at this; exact put_cA base b P s (.mk [] [] x []) _ _ w hB (AtP.nil _ _) (NdS.nil _ _) hbw hlx (by omega) rfl o t h0 (by simp only [Nd.x]; omega)
   · exact put_cD base b P s (.mk [] [] x []) _ _ w hB (AtP.nil _ _) (NdS.nil _ _) hbw hlx (by omega) rfl o c h0 hn
theorem run_append_row {P : Program} (w : World) (base base2 : Nat) (t ty e : TypeId) (i : TypeInfo) (z : Value) (size bytes : Nat) (ht : P.underlying t = some (.slice e)) (hi : P.info? e = some i) (hz : i.zero = some z)
 (hsize : i.size = size) (hby : i.bytes = bytes) (hzs : z.cells.size = size) (hsz : 0 < size)
 (v : Value) (n : Nat) (xs : List Value) (hown : w.ownsRow base e size v n xs) (u : Value) (m : Nat) (ys : List Value) (hu : w.ownsRow base2 e size u m ys) (h1 : ∀ x ∈ ys, x.oneCell' = true)
 (h63 : n + m ≤ maxLen) (hbytes : (n + m) * bytes ≤ 140737488355328) (hbase : base ≤ w.heap.size) :
 ∃ v' w', (Builtin.append_ #[t, t] ty #[v, u]).run P w = .ok v' w' ∧ w'.ownsRow base e size v' (n + m) (xs ++ ys) ∧ w.grownBy w' v.ownBlock := by
 have hu' := hu; rcases hu.2 with ⟨rfl, rfl⟩ | ⟨g, cap, cur, rfl, _, hg, hnc, hcm, hcs, htake⟩
 · have hy : ys = [] := List.eq_nil_of_length_eq_zero (by simpa using hu.1); subst hy; exact ⟨v, w, run_append_owned_none w base t ty e i size ht hi v n xs hown, by simpa using hown, gb_bl (b := v.ownBlock) (Bl.refl w)⟩
 · obtain ⟨v', w', hr, h2, h3, _⟩ := run_append_own (P := P) w base t ty e i z size bytes ht hi hz hsize hby hzs hsz v n xs hown ⟨g, 0, none⟩ m cap ys hu.1 (fun j x hj => World.ownsRow.cells hu' (g := g) rfl _ _ hj) h1 h63 hbytes hbase; exact ⟨v', w', hr, h2, h3⟩
theorem step_append_row {P : Program} {ops : Array Oper} {o : Oper} {a : Act} {w : World} {K : Act → World → Prop} {Q : Exit → Act → World → Prop} {E : Prop}
 (hgd : o.guard = none) (s x : Operand) (t : TypeId) (hop : o.op = Op.call { callee := Callee.builtin Builtin.append, args := #[s, x], argTypes := #[t, t] })
 (base base2 : Nat) (e : TypeId) (i : TypeInfo) (z : Value) (size bytes : Nat) (ht : P.underlying t = some (.slice e)) (hi : P.info? e = some i) (hz : i.zero = some z)
 (hsize : i.size = size) (hby : i.bytes = bytes) (hzs : z.cells.size = size) (hsz : 0 < size)
 (v : Value) (n : Nat) (xs : List Value) (hs : a.eval s = v) (hown : w.ownsRow base e size v n xs) (u : Value) (m : Nat) (ys : List Value) (hx : a.eval x = u) (hu : w.ownsRow base2 e size u m ys) (h1 : ∀ x ∈ ys, x.oneCell' = true)
 (h63 : n + m ≤ maxLen) (hbytes : (n + m) * bytes ≤ 140737488355328) (hbase : base ≤ w.heap.size)
 (hK : ∀ v' w', w'.ownsRow base e size v' (n + m) (xs ++ ys) → w.grownBy w' v.ownBlock → K (a.put o.dst v') w') :
 if Region.wanted o (yielded ops a.tmps) = true then Oper.wp P o a w K Q else E := by
 have hw : Region.wanted o (yielded ops a.tmps) = true := by simp [Region.wanted, hgd]
 rw [if_pos hw]; obtain ⟨v', w', hrun, h2, h3⟩ := run_append_row (P := P) w base base2 t o.type e i z size bytes ht hi hz hsize hby hzs hsz v n xs hown u m ys hu h1 h63 hbytes hbase; unfold Oper.wp; simp [execOp, hop, resolve, invoke, builtin, hs, hx, hrun, Result.andThen]; exact hK v' w' h2 h3
theorem wpList_append_row {P : Program} (w : World) {ops : Array Oper} {rest : List Oper} {o : Oper} {a : Act} {Q : Exit → Act → World → Prop} (hgd : o.guard = none) (s x : Operand) (t : TypeId)
 (ho : o.op = .call { callee := .builtin .append, args := #[s, x], argTypes := #[t, t] })
 (base base2 : Nat) (e : TypeId) (i : TypeInfo) (z : Value) (size bytes : Nat) (ht : P.underlying t = some (.slice e)) (hi : P.info? e = some i) (hz : i.zero = some z)
 (hsize : i.size = size) (hby : i.bytes = bytes) (hzs : z.cells.size = size) (hsz : 0 < size)
 (v : Value) (n : Nat) (xs : List Value) (hs : a.eval s = v) (hown : w.ownsRow base e size v n xs) (u : Value) (m : Nat) (ys : List Value) (hx : a.eval x = u) (hu : w.ownsRow base2 e size u m ys) (h1 : ∀ x ∈ ys, x.oneCell' = true)
 (h63 : n + m ≤ maxLen) (hbytes : (n + m) * bytes ≤ 140737488355328) (hbase : base ≤ w.heap.size)
 (h : ∀ v' w', w'.ownsRow base e size v' (n + m) (xs ++ ys) → w.grownBy w' v.ownBlock → wpList P ops Q rest (a.put o.dst v') w') : wpList P ops Q (o :: rest) a w := by
 refine wpList_plain hgd fun K hK => ?_
 obtain ⟨v', w', hr, h2, h3⟩ := run_append_row (P := P) w base base2 t o.type e i z size bytes ht hi hz hsize hby hzs hsz v n xs hown u m ys hu h1 h63 hbytes hbase; unfold Oper.wp execOp; simp only [ho, resolve, invoke, builtin, Sem.run_bind, Sem.run_pure, Result.andThen_ok, List.map_toArray, List.map_cons, List.map_nil, hs, hx, hr]; exact hK _ _ (h v' w' h2 h3)
theorem tkC_one (l : List (Tok × Value)) (h : ∀ p ∈ l, p.2.oneCell' = true) : ∀ u ∈ tkC l, u.oneCell' = true := by
 intro u hu; simp only [tkC, List.mem_flatMap] at hu; obtain ⟨p, hp, hu⟩ := hu; simp only [List.mem_cons, List.not_mem_nil, or_false] at hu; rcases hu with rfl | rfl | rfl | rfl
 · rfl
 · rfl
 · exact h p hp
 · rfl
theorem tkC_app (l m : List (Tok × Value)) : tkC (l ++ m) = tkC l ++ tkC m := by simp [tkC]
theorem AtO.one {w : World} {base : Nat} {v : Value} {l : List Atr} (h : AtO w base v l) : v.oneCell' = true := by
 obtain ⟨ao, c, rfl⟩ := h.shape; rfl
theorem tks_meet {w0 wz : World} {base : Nat} {v v' : Value} {l m : List Tok} {ents ents2 : List (Tok × Value)} (h1 : ents.map (·.1) = l) (h2 : w0.ownsRow base 108 4 v ents.length (tkC ents)) (h3 : ∀ p ∈ ents, AtO w0 base p.2 p.1.2.2.1)
 (k1 : ents2.map (·.1) = m) (k3 : ∀ p ∈ ents2, AtO w0 base p.2 p.1.2.2.1)
 (hown' : wz.ownsRow base 108 4 v' (ents.length + ents2.length) (tkC ents ++ tkC ents2)) (hgrow : w0.grownBy wz v.ownBlock) : TkO wz base v' (l ++ m) := by
 refine ⟨ents ++ ents2, by simp [h1, k1], by rw [tkC_app, List.length_append]; exact hown', fun p hp => ?_⟩; have key : ∀ (pv : Value) (pa : List Atr), AtO w0 base pv pa → AtO wz base pv pa := fun pv pa h => World.ownsRow.kept h hgrow (two_rows h h2 (by decide))
 rcases List.mem_append.1 hp with hp | hp
 · exact key _ _ (h3 p hp)
 · exact key _ _ (k3 p hp)
theorem clone_o (l : List Atr) (v : Value) (hl : l.length ≤ 100000000) (w : World) (hA : AtS w v l) :
 Calls Tryz.prog 118 #[v] w fun e w' => ∃ v', e = .returned v' ∧ AtO w' w.heap.size v' l ∧ Bl w w' := by
 obtain ⟨i0, hi, hz0, hz1, hz2⟩ := info_parts Tryz.infoAtr; have hA' := hA; obtain ⟨ao, cap, rfl, hA⟩ := hA; have hnil := fun (W : World) (a : Option Addr) (n c : Nat) => Lib.run_eql_slice_nil (P := Tryz.prog) W 74 123 a n c 0 0 Tryz.underlying74
 cases ao with
 | none =>
   have h0 : l = [] := by
    rcases l with _ | ⟨a, l⟩
    · rfl
    · obtain ⟨g, o, e, _⟩ := hA 0 (by simp); cases e
   subst h0; clear hA hA'; go_enter Tryz.func118, Tryz.ntmps118; go_wp2; go_ret; exact ⟨_, rfl, AtO.nil _ _, Bl.refl _⟩
 | some a =>
   by_cases h0 : l = []
   · subst h0; clear hA hA'; go_enter Tryz.func118, Tryz.ntmps118; go_wp2; go_ret; exact ⟨_, rfl, World.ownsRow_made (base := w.heap.size) (e := 123) (size := 2) w #[] 0 (Nat.le_refl _) (by decide) rfl, (Bl.refl _).alloc _⟩
   · have hpos := List.length_pos_iff.2 h0; obtain ⟨g, o, e, _⟩ := hA 0 hpos; cases e; have HN := Lib.hid hA'; clear hA hA' h0; go_enter Tryz.func118, Tryz.ntmps118; go_wp2_with (first | (at_builtin; (refine wpList_append_own _ rfl _ _ 74 rfl w.heap.size 123 i0 (.agg #[.string ⟨#[]⟩, .string ⟨#[]⟩]) 2 32 Tryz.underlying74 hi hz0 hz1 hz2 rfl (by decide) (.slice (some ⟨w.heap.size, 0, none⟩) 0 0) 0 [] rfl (World.ownsRow_made (base := w.heap.size) (e := 123) (size := 2) w #[] 0 (Nat.le_refl _) (by decide) rfl) ⟨g, o, none⟩ l.length cap (atC l) rfl (atC_len l) (ats_news (HN.out.of_bl ((Bl.refl _).alloc _))) (atC_one l) (by unfold maxLen; omega) (by omega) (by simp) ?_))); intro v' wz hown' hgrow _; have hbz : Bl w wz := Below.trans ((Bl.refl w).alloc _) (bel_gr hgrow (fun j hj => by simp only [Value.ownBlock, Option.some.injEq] at hj; omega) (by simp)); have HO := Lib.hid hown'; obtain ⟨ao, c, rfl, -⟩ := own_shp hown'; clear hgrow hown'; go_wp2; go_ret; refine ⟨_, rfl, ?_, hbz⟩; have := HO.out; unfold AtO; simpa using this
theorem cnt_len (l : List Nd) : l.length ≤ cntL l := by
 induction l with
 | nil => simp [cntL]
 | cons d l ih => cases d with
   | mk n a x k => simp only [List.length_cons, cntL, cntN]; omega
instance decAtr : DecidableEq Atr := inferInstanceAs (DecidableEq (List UInt8 × List UInt8))
instance decTok : DecidableEq Tok := inferInstanceAs (DecidableEq (Int × List UInt8 × List Atr × List UInt8))
def wtA (l : List Atr) : Nat := (l.map fun a => 1 + a.1.length + a.2.length).sum
mutual
def wtN : Nd → Nat
 | .mk n a x k => 1 + n.length + wtA a + x.length + wtL k
def wtL : List Nd → Nat
 | [] => 0
 | d :: l => wtN d + wtL l
end
theorem wtA_len (l : List Atr) : l.length ≤ wtA l := by
 induction l with
 | nil => simp
 | cons a l ih => simp only [wtA, List.map_cons, List.sum_cons, List.length_cons] at *; omega
theorem wt_get : ∀ (l : List Nd) (i : Nat) (h : i < l.length), 1 + l[i].n.length + wtA l[i].a + l[i].x.length + wtL l[i].k ≤ wtL l := by
 intro l; induction l with
 | nil => intro i h; simp at h
 | cons d l ih =>
   intro i h; cases d with
   | mk n a x k =>
     cases i with
     | zero => simp only [List.getElem_cons_zero, Nd.n, Nd.a, Nd.x, Nd.k, wtL, wtN]; omega
     | succ i => have := ih i (by simpa using h); simp only [List.getElem_cons_succ, wtL, wtN]; omega
theorem wt_cnt (l : List Nd) : cntL l ≤ wtL l := by
 induction l using Nd.ind with
 | h0 => simp [cntL]
 | h1 n a x k l ik il => simp only [cntL, cntN, wtL, wtN]; omega
theorem flt_app (l m : List Nd) : fltL (l ++ m) = fltL l ++ fltL m := by
 induction l with
 | nil => rfl
 | cons d l ih => simp only [List.cons_append, fltL, ih, List.append_assoc]
theorem flt_len (l : List Nd) : (fltL l).length ≤ 2 * cntL l := by
 induction l using Nd.ind with
 | h0 => simp [fltL]
 | h1 n a x k l ik il =>
   simp only [fltL, fltN, cntL, cntN, List.length_append]; split
   · simp; omega
   · split
     · simp; omega
     · simp; omega
theorem flt_take (l : List Nd) (k : Nat) (h : k < l.length) : fltL (l.take (k + 1)) = fltL (l.take k) ++ fltN l[k] := by
 rw [take_snoc l k h, flt_app]; simp [fltL]
theorem flt_txt {d : Nd} (h : d.n = []) : fltN d = [(1, [], [], d.x)] := by
 cases d with
 | mk n a x k => simp only [Nd.n] at h; subst h; simp [fltN, Nd.x]
theorem flt_emp {d : Nd} (h : d.n ≠ []) (he : emptyN d.n = true) : fltN d = [(2, d.n, d.a, [])] := by
 cases d with
 | mk n a x k => simp only [Nd.n] at h he; simp [fltN, Nd.n, Nd.a, h, he]
theorem flt_el {d : Nd} (h : d.n ≠ []) (he : emptyN d.n = false) : fltN d = [(2, d.n, d.a, [])] ++ fltL d.k ++ [(3, d.n, [], [])] := by
 cases d with
 | mk n a x k => simp only [Nd.n] at h he; simp [fltN, Nd.n, Nd.a, Nd.k, h, he]
def Nq (w : World) (q : Nat) (n x : Nm) (va vk : Value) : Prop := w.heap[q]? = some (.cells #[.string ⟨n.toArray⟩, va, .string ⟨x.toArray⟩, vk] 76 (0, 0))
theorem Nq.cells {w : World} {q : Nat} {n x : Nm} {va vk : Value} (h : Nq w q n x va vk) : w.cell? ⟨q, 0, none⟩ = some (.string ⟨n.toArray⟩) ∧ w.cell? ⟨q, 1, none⟩ = some va ∧ w.cell? ⟨q, 2, none⟩ = some (.string ⟨x.toArray⟩) ∧ w.cell? ⟨q, 3, none⟩ = some vk := by
 unfold Nq at h; simp [World.cell?, h]
theorem Nq.lt {w : World} {q : Nat} {n x : Nm} {va vk : Value} (h : Nq w q n x va vk) : q < w.heap.size := (Array.getElem?_eq_some_iff.1 h).1
theorem Nq.of_bl {w w' : World} {q : Nat} {n x : Nm} {va vk : Value} (h : Nq w q n x va vk) (hb : Bl w w') : Nq w' q n x va vk := (Below.block hb q h.lt).trans h
theorem Nq.of_gr {w w' : World} {q : Nat} {n x : Nm} {va vk u : Value} (h : Nq w q n x va vk) {B sz m : Nat} {xs : List Value} (ho : w.ownsRow B 108 sz u m xs) (hg : w.grownBy w' u.ownBlock) : Nq w' q n x va vk :=
 (hg.block q h.lt (fun e => own_ty ho h (by decide) e.symm)).trans h
theorem tk_more {w wr w6 wz : World} {out v' va : Value} {l : List Tok} {t : Tok} {ents : List (Tok × Value)} (hb : Bl w wr) (e1 : ents.map (·.1) = l) (e2 : wr.ownsRow w.heap.size 108 4 out ents.length (tkC ents)) (e3 : ∀ p ∈ ents, AtO wr w.heap.size p.2 p.1.2.2.1)
 (h6 : Bl wr w6) (ha : AtO w6 w.heap.size va t.2.2.1) (hown' : wz.ownsRow w.heap.size 108 4 v' (ents.length + 1) (tkC ents ++ [.int .i64 t.1, .string ⟨t.2.1.toArray⟩, va, .string ⟨t.2.2.2.toArray⟩])) (hgrow : w6.grownBy wz out.ownBlock) : TkO wz w.heap.size v' (l ++ [t]) ∧ Bl w wz :=
 ⟨tk_meet e1 (own_bl e2 h6) (fun p hp => (e3 p hp).of_bl h6) ha hown' hgrow, Below.trans (hb.trans h6) (below_gr hgrow (fun j hj => ((World.ownsRow.lt e2) j hj).1) (Below.size (hb.trans h6)))⟩
theorem tks_more {w wr w6 wz : World} {out v' : Value} {l m : List Tok} {ents ents2 : List (Tok × Value)} (hb : Bl w wr) (e1 : ents.map (·.1) = l) (e2 : wr.ownsRow w.heap.size 108 4 out ents.length (tkC ents)) (e3 : ∀ p ∈ ents, AtO wr w.heap.size p.2 p.1.2.2.1)
 (h6 : Bl wr w6) (k1 : ents2.map (·.1) = m) (k3 : ∀ p ∈ ents2, AtO w6 w.heap.size p.2 p.1.2.2.1) (hown' : wz.ownsRow w.heap.size 108 4 v' (ents.length + ents2.length) (tkC ents ++ tkC ents2)) (hgrow : w6.grownBy wz out.ownBlock) : TkO wz w.heap.size v' (l ++ m) ∧ Bl w wz :=
 ⟨tks_meet e1 (own_bl e2 h6) (fun p hp => (e3 p hp).of_bl h6) k1 k3 hown' hgrow, Below.trans (hb.trans h6) (below_gr hgrow (fun j hj => ((World.ownsRow.lt e2) j hj).1) (Below.size (hb.trans h6)))⟩
theorem toks_c (N : Nat) : ∀ (l : List Nd) (v : Value) (P : Nat → Prop) (w : World), wtL l < N → N ≤ 10000000 → NdS w P v l →
 Calls Tryz.prog 92 #[v] w fun e w' => ∃ v', e = .returned v' ∧ TkO w' w.heap.size v' (fltL l) ∧ Bl w w' := by
 induction N with
 | zero => intro l v P w h; omega
 | succ N ih =>
   intro l v P w hN hN2 hA; obtain ⟨i0, hi, hz0, hz1, hz2⟩ := info_parts Tryz.infoTok; obtain ⟨ao, cap, rfl, hcap, hA⟩ := hA.get; have hll := cnt_len l; have hlc := wt_cnt l; have IH := Lib.hid ih; have HA := Lib.hid hA; have HN := Lib.hid hN; clear ih hA hN; go_enter Tryz.func92, Tryz.ntmps92; go_wp2; go_loopw [3, 8] (fun u i wr => ∃ k : Nat, k ≤ l.length ∧ i = .int .i64 k ∧ TkO wr w.heap.size u (fltL (l.take k)) ∧ Bl w wr) (fun _ i _ => l.length - (intOf i).toNat); case atStart => exact ⟨0, Nat.zero_le _, rfl, TkO.nil _ _, Bl.refl _⟩
   case round =>
    obtain ⟨k, hk, rfl, hT, hb⟩ := hrel; by_cases hlt : k < l.length
    · obtain ⟨g, o, va, vk, rfl, hg, -, h1, h2, h3, h4, h5, h6⟩ := HA.out k hlt; have y1 := (hb.cells.1 g _ hg).trans h1; have y2 := (hb.cells.1 g _ hg).trans h2; have y3 := (hb.cells.1 g _ hg).trans h3; have y4 := (hb.cells.1 g _ hg).trans h4; have hgr : g < wr.heap.size := Nat.lt_of_lt_of_le hg (Below.size hb); have hwt := wt_get l k hlt; have hN3 := HN.out; have hal : l[k].a.length ≤ 100000000 := by have := wtA_len l[k].a; omega
      have CC := Lib.hid (fun W (hbW : Bl w W) => clone_o l[k].a va hal W (h5.ats.of_bl hbW)); have KC := Lib.hid (fun W (hbW : Bl w W) => IH.out l[k].k vk P W (by omega) (by omega) (h6.of_bl hbW)); have EC := Lib.hid (fun W => empty_c l[k].n W); have HS := Lib.hid (flt_take l k hlt); have hl1 : (fltL (l.take k)).length + (fltN l[k]).length ≤ 20000000 := by
       have h7 := flt_len l; have h8 : fltL l = fltL (l.take (k + 1)) ++ fltL (l.drop (k + 1)) := by rw [← flt_app, List.take_append_drop]
       rw [h8, HS.out] at h7; simp only [List.length_append] at h7; omega
      have HL := Lib.hid hl1; obtain ⟨a1, n1, c1, rfl⟩ : ∃ a n c, va = .slice a n c := by obtain ⟨a, c, e, -⟩ := h5; exact ⟨a, _, c, e⟩
      obtain ⟨a2, c2, rfl⟩ : ∃ a c, vk = .slice a l[k].k.length c := by obtain ⟨a, c, e, -⟩ := h6; exact ⟨a, c, e⟩
      clear h1 h2 h3 h4 h5 h6 hl1; obtain ⟨ents, e1, e2, e3⟩ := hT; have E1 := Lib.hid e1; have E2 := Lib.hid e2; have E3 := Lib.hid e3; have hel : ents.length ≤ 20000000 := by
       have : ents.length = (fltL (l.take k)).length := by rw [← e1, List.length_map]
       have := HL.out; omega
      clear e1 e2 e3; by_cases hn : l[k].n = []
      · have HT := Lib.hid (flt_txt hn); clear EC CC KC; go_wp2_with (at_builtin; refine Hid.out ?_); refine Lib.hid ?_; refine wpList_append_own _ rfl _ _ 72 rfl w.heap.size 108 i0 (.agg #[.int .i64 0, .string ⟨#[]⟩, .slice none 0 0, .string ⟨#[]⟩]) 4 64 Tryz.underlying72 hi hz0 hz1 hz2 rfl (by decide) u3 ents.length (tkC ents) rfl (own_bl E2.out Bl.z) ⟨wr.heap.size + 1, 0, none⟩ 1 1 [.int .i64 1, .string ⟨#[]⟩, .slice none 0 0, .string ⟨l[k].x.toArray⟩] rfl rfl (new_cells2 wr _ #[.int .i64 1, .string ⟨#[]⟩, .slice none 0 0, .string ⟨l[k].x.toArray⟩] _) (by simp [Value.oneCell']) (by unfold maxLen; omega) (by omega) (by have := Below.size hb; simp; omega) ?_; intro v' wz hown' hgrow _; obtain ⟨hT3, hb3⟩ := tk_more (t := (1, [], [], l[k].x)) hb E1.out E2.out E3.out Bl.z (AtO.nil _ _) hown' hgrow; clear hown' hgrow; go_wp2; go_roundw; case rel => exact ⟨k + 1, by omega, by go_num, by rw [HS.out, HT.out]; exact hT3, hb3⟩
        case measure => simp [intOf]; omega
      · have hne : l[k].n.isEmpty = false := by cases e : l[k].n <;> simp_all
        have HNE := Lib.hid hn; clear hn; go_upto_region 7 with fail; go_cut [3] from 21 to 29 (fun t wx => TkO wx w.heap.size t (fltL (l.take k) ++ [(2, l[k].n, l[k].a, [])]) ∧ Bl w wx ∧ Nq wx wr.heap.size l[k].n l[k].x (.slice a1 n1 c1) (.slice a2 l[k].k.length c2)); case first =>
         go_region_law (first | (go_simp; go_at_call 118; (with_reducible refine (CC.out _ hb.up).mono ?_); rintro e w2 ⟨va2, rfl, hO2', hb2⟩; have hO2 := hO2'.base_le (B' := w.heap.size) (by have := Below.size hb; simp; omega); clear hO2'; obtain ⟨ao2, cc2, rfl⟩ := hO2.shape; have hbq : Bl wr w2 := Bl.trans Bl.z hb2; have hq2 : Nq w2 wr.heap.size l[k].n l[k].x (.slice a1 n1 c1) (.slice a2 l[k].k.length c2) := (Below.block hb2 wr.heap.size (by simp)).trans (heap_alloc_new _ _); obtain ⟨p0, p1, p2, p3⟩ := hq2.cells; have hql2 := hq2.lt) | go_loud (refine step_append_own rfl (.tmp 21) (.tmp 28) 72 rfl w.heap.size 108 i0 (.agg #[.int .i64 0, .string ⟨#[]⟩, .slice none 0 0, .string ⟨#[]⟩]) 4 64 Tryz.underlying72 hi hz0 hz1 hz2 rfl (by decide) u3 ents.length (tkC ents) (by simp [Act.eval]) (own_bl E2.out (Bl.trans hbq Bl.z)) ⟨w2.heap.size, 0, none⟩ 1 1 [.int .i64 2, .string ⟨l[k].n.toArray⟩, .slice ao2 l[k].a.length cc2, .string ⟨#[]⟩] (by simp [Act.eval]) rfl (new_cells w2 #[.int .i64 2, .string ⟨l[k].n.toArray⟩, .slice ao2 l[k].a.length cc2, .string ⟨#[]⟩] _) (by simp [Value.oneCell']) (by unfold maxLen; omega) (by omega) (by have := Below.size hb; have := Below.size hbq; simp; omega) ?_; intro v' wz hown3 hgrow; obtain ⟨hT3, hb3⟩ := tk_more (t := (2, l[k].n, l[k].a, [])) hb E1.out E2.out E3.out (Bl.trans hbq Bl.z) (hO2.of_bl Bl.z) hown3 hgrow; have hq3 := (Nq.of_bl hq2 Bl.z).of_gr (own_bl E2.out (Bl.trans hbq Bl.z)) hgrow; obtain ⟨o0, o1, o2, o3⟩ := hq3.cells; have hql3 := hq3.lt; clear hown3 hgrow))
         all_goals
          go_wp2_with fail; go_meet; case rel => first | exact ⟨hT3, hb3, hq3⟩ | exact ⟨hT3.of_bl (Bl.drew (Bl.refl _)), Bl.drew hb3, hq3.of_bl (Bl.drew (Bl.refl _))⟩
        case rest =>
         obtain ⟨hT2, hb2, hq2⟩ := hcut; obtain ⟨z0, z1, z2, z3⟩ := hq2.cells; have hql := hq2.lt; cases he : emptyN l[k].n
         · rw [he] at EC; have HT := Lib.hid (flt_el HNE.out he); have hl6 : (fltL l[k].k).length ≤ 20000000 := by
            have := HL.out; rw [HT.out] at this; simp only [List.length_append] at this; omega
           have HK := Lib.hid hl6; obtain ⟨ents4, f1, f2, f3⟩ := hT2; have hel4 : ents4.length ≤ 20000001 := by
            have h7 : ents4.length = (fltL (l.take k) ++ [(2, l[k].n, l[k].a, [])]).length := by rw [← f1, List.length_map]
            rw [List.length_append] at h7; have := HL.out; simp only [List.length_cons, List.length_nil] at h7; omega
           clear he; go_wp2_with (first | (go_at_call 85; (with_reducible refine (EC.out _).mono ?_); rintro e w5 ⟨rfl, rfl⟩) | (go_at_call 92; (with_reducible refine (KC.out _ hb2).mono ?_); rintro e w6 ⟨v6, rfl, hT6, hb6⟩; obtain ⟨ents6, k1, k2, k3⟩ := TkO.base_le hT6 (Below.size hb2); have hel6 : ents6.length ≤ 20000000 := (by have h7 : ents6.length = (fltL l[k].k).length := (by rw [← k1, List.length_map]); have := HK.out; omega); have hbs := Below.size (hb2.trans hb6)) | (at_builtin; (refine wpList_append_row _ rfl _ _ 72 rfl w.heap.size w.heap.size 108 i0 (.agg #[.int .i64 0, .string ⟨#[]⟩, .slice none 0 0, .string ⟨#[]⟩]) 4 64 Tryz.underlying72 hi hz0 hz1 hz2 rfl (by decide) _ ents4.length (tkC ents4) rfl (own_bl f2 hb6) _ ents6.length (tkC ents6) rfl k2 (tkC_one ents6 (fun p hp => (k3 p hp).one)) (by unfold maxLen; omega) (by omega) hbs ?_))); intro v7 w7 hown7 hgrow7; obtain ⟨hT7, hb7⟩ := tks_more hb2 f1 f2 f3 hb6 k1 k3 hown7 hgrow7; have hq7 := (hq2.of_bl hb6).of_gr (own_bl f2 hb6) hgrow7; obtain ⟨x0, x1, x2, x3⟩ := hq7.cells; have hql7 := hq7.lt; clear hown7 hgrow7 z0 z1 z2 z3 k2 k3 f2 f3; obtain ⟨ents7, m1, m2, m3⟩ := hT7; have hel7 : ents7.length ≤ 40000001 := by
            have h7 : ents7.length = (fltL (l.take k) ++ [(2, l[k].n, l[k].a, [])] ++ fltL l[k].k).length := by rw [← m1, List.length_map]
            rw [List.length_append, ← f1, ← k1] at h7; simp only [List.length_map] at h7; omega
           go_wp2_with (at_builtin; (refine wpList_append_own _ rfl _ _ 72 rfl w.heap.size 108 i0 (.agg #[.int .i64 0, .string ⟨#[]⟩, .slice none 0 0, .string ⟨#[]⟩]) 4 64 Tryz.underlying72 hi hz0 hz1 hz2 rfl (by decide) _ ents7.length (tkC ents7) rfl (own_bl m2 Bl.z) ⟨_, 0, none⟩ 1 1 [.int .i64 3, .string ⟨l[k].n.toArray⟩, .slice none 0 0, .string ⟨#[]⟩] rfl rfl (new_cells _ #[.int .i64 3, .string ⟨l[k].n.toArray⟩, .slice none 0 0, .string ⟨#[]⟩] _) (by simp [Value.oneCell']) (by unfold maxLen; omega) (by omega) (by have := Below.size hb7; simp; omega) ?_)); intro v8 w8 hown8 hgrow8 _; obtain ⟨hT8, hb8⟩ := tk_more (t := (3, l[k].n, [], [])) hb7 m1 m2 m3 Bl.z (AtO.nil _ _) hown8 hgrow8; clear hown8 hgrow8; go_wp2; go_roundw; case rel => exact ⟨k + 1, by omega, by go_num, by rw [HS.out, HT.out, ← List.append_assoc, ← List.append_assoc]; exact hT8, hb8⟩
           case measure => simp [intOf]; omega
         · rw [he] at EC; have HT := Lib.hid (flt_emp HNE.out he); clear he; go_wp2_with (go_at_call 85; (with_reducible refine (EC.out _).mono ?_); rintro e w5 ⟨rfl, rfl⟩); go_roundw; case rel => exact ⟨k + 1, by omega, by go_num, by rw [HS.out, HT.out]; exact hT2, hb2⟩
           case measure => simp [intOf]; omega
    · have HE := Lib.hid (show l.take k = l from List.take_of_length_le (by omega)); go_wp2; go_ret; exact ⟨_, rfl, by rw [← HE.out]; exact hT, hb⟩
end Go.Proofs.YtamdlihgecpbkaaGreatDoor

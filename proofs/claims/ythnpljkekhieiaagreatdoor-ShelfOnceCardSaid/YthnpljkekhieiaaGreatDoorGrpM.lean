/- Trees: slices.Clone of attributes; put of a text. · Trees: a row appended to an own row; attributes cloned as an own row. · Trees: Size of the program; count of the reference. · Tokens: SameTokens. · Trees: SameNodes of the reference. -/
import Derived.Test.YthnpljkekhieiaaGreatDoorTreJ
import Derived.Test.YthnpljkekhieiaaGreatDoorTreIb
import Derived.Test.YthnpljkekhieiaaGreatDoorTreIc
import Derived.Test.YthnpljkekhieiaaGreatDoorTokI
import Derived.Test.YthnpljkekhieiaaGreatDoorGrpH
import Derived.Laws.OwnMore
import Derived.Test.YthnpljkekhieiaaGreatDoorGrpL
import Derived.Test.YthnpljkekhieiaaGreatDoorGrpJ
import Derived.Test.YthnpljkekhieiaaGreatDoorGrpG
namespace Go.Proofs.YthnpljkekhieiaaGreatDoor
open Go.RowKit

theorem add_spot (g o j : Nat) : (⟨g, o, none⟩ : Addr).add j = ⟨g, o + j, none⟩ := by unfold Addr.add; split <;> simp_all
theorem atC_at : ∀ (l : List Atr) (j : Nat) (u : Value), (atC l)[j]? = some u → ∃ i, ∃ h : i < l.length, (j = i * 2 ∧ u = .string ⟨l[i].1.toArray⟩) ∨ (j = i * 2 + 1 ∧ u = .string ⟨l[i].2.toArray⟩) := by
  intro l
  induction l with
  | nil => intro j u h; simp [atC] at h
  | cons a l ih =>
    intro j u h
    have e : atC (a :: l) = .string ⟨a.1.toArray⟩ :: .string ⟨a.2.toArray⟩ :: atC l := rfl
    rw [e] at h
    match j, h with
    | 0, h => exact ⟨0, by simp, .inl ⟨rfl, by simpa using h.symm⟩⟩
    | 1, h => exact ⟨0, by simp, .inr ⟨rfl, by simpa using h.symm⟩⟩
    | j + 2, h =>
      obtain ⟨i, hi, h2⟩ := ih j u (by simpa using h)
      refine ⟨i + 1, by simp; omega, ?_⟩
      rcases h2 with ⟨e1, e2⟩ | ⟨e1, e2⟩
      · exact .inl ⟨by omega, by simpa using e2⟩
      · exact .inr ⟨by omega, by simpa using e2⟩
theorem atC_one (l : List Atr) : ∀ u ∈ atC l, u.oneCell' = true := by
  intro u hu
  obtain ⟨j, hj, rfl⟩ := List.mem_iff_getElem.1 hu
  obtain ⟨i, hi, h⟩ := atC_at l j _ (List.getElem?_eq_getElem hj)
  rcases h with ⟨_, e⟩ | ⟨_, e⟩ <;> rw [e] <;> rfl
theorem ats_news {w : World} {g o c : Nat} {l : List Atr} (h : AtS w (.slice (some ⟨g, o, none⟩) l.length c) l) : ∀ j u, (atC l)[j]? = some u → w.cell? ((⟨g, o, none⟩ : Addr).add j) = some u := by
  intro j u hj
  obtain ⟨ao, cap, e, h⟩ := h
  cases e
  rw [add_spot]
  obtain ⟨i, hi, h2⟩ := atC_at l j u hj
  obtain ⟨g', o', e, _, h3, h4⟩ := h i hi
  cases e
  rcases h2 with ⟨rfl, rfl⟩ | ⟨rfl, rfl⟩
  · exact h3
  · rw [← Nat.add_assoc]; exact h4
theorem AtO.atp {w : World} {base : Nat} {v : Value} {l : List Atr} (h : AtO w base v l) : AtP w (fun k => base ≤ k ∧ k < w.heap.size) v l := by
  have h2 := h.ats
  obtain ⟨ao, cap, rfl, hc⟩ := h2
  have hcap : l.length ≤ cap := by
    rcases h.2 with ⟨e, h0⟩ | ⟨g, cap', cur, e, _, _, hnc, _⟩
    · simp only [Value.slice.injEq] at e; omega
    · simp only [Value.slice.injEq] at e; omega
  refine ⟨ao, cap, rfl, hcap, fun i hi => ?_⟩
  obtain ⟨g, o, rfl, h3, h4, h5⟩ := hc i hi
  exact ⟨g, o, rfl, h3, ⟨((World.ownsRow.lt h) g rfl).1, h3⟩, h4, h5⟩
set_option maxHeartbeats 1000000 in
theorem clone_c (l : List Atr) (v : Value) (hl : l.length ≤ 100000000) (w : World) (hA : AtS w v l) :
    Calls Tryz.prog 104 #[v] w fun e w' => ∃ ao c, e = .returned (.slice ao l.length c) ∧ AtP w' (fun k => w.heap.size ≤ k ∧ k < w'.heap.size) (.slice ao l.length c) l ∧ Bl w w' := by
  obtain ⟨i0, hi, hz0, hz1, hz2⟩ := info_parts Tryz.infoAtr
  have hA' := hA
  obtain ⟨ao, cap, rfl, hA⟩ := hA
  have hnil := fun (W : World) (a : Option Addr) (n c : Nat) => Lib.run_eql_slice_nil (P := Tryz.prog) W 97 102 a n c 0 0 Tryz.underlying97
  cases ao with
  | none =>
    have h0 : l = [] := by
      rcases l with _ | ⟨a, l⟩
      · rfl
      · obtain ⟨g, o, e, _⟩ := hA 0 (by simp); cases e
    subst h0
    clear hA hA'
    go_enter Tryz.func104, Tryz.ntmps104
    go_wp2
    go_ret
    exact ⟨none, 0, rfl, AtP.nil _ _, Bl.refl _⟩
  | some a =>
    by_cases h0 : l = []
    · subst h0
      clear hA hA'
      go_enter Tryz.func104, Tryz.ntmps104
      go_wp2
      go_ret
      exact ⟨some ⟨w.heap.size, 0, none⟩, 0, rfl, ⟨_, _, rfl, Nat.le_refl _, fun i hi => by simp at hi⟩, (Bl.refl _).alloc _⟩
    · have hpos := List.length_pos_iff.2 h0
      obtain ⟨g, o, e, _⟩ := hA 0 hpos
      cases e
      have HN := Lib.hid hA'
      clear hA hA' h0
      go_enter Tryz.func104, Tryz.ntmps104
      go_wp2_with (first | (at_builtin; (refine wpList_append_own _ rfl _ _ 97 rfl w.heap.size 102 i0 (.agg #[.string ⟨#[]⟩, .string ⟨#[]⟩]) 2 32 Tryz.underlying97 hi hz0 hz1 hz2 rfl (by decide) (.slice (some ⟨w.heap.size, 0, none⟩) 0 0) 0 [] rfl (World.ownsRow_made (base := w.heap.size) (e := 102) (size := 2) w #[] 0 (Nat.le_refl _) (by decide) rfl) ⟨g, o, none⟩ l.length cap (atC l) rfl (atC_len l) (ats_news (HN.out.of_bl ((Bl.refl _).alloc _))) (atC_one l) (by unfold maxLen; omega) (by omega) (by simp) ?_)))
      intro v' wz hown' hgrow _
      have hbz : Bl w wz := Below.trans ((Bl.refl w).alloc _) (bel_gr hgrow (fun j hj => by simp only [Value.ownBlock, Option.some.injEq] at hj; omega) (by simp))
      have HO := Lib.hid hown'
      obtain ⟨ao, c, rfl, -⟩ := own_shp hown'
      clear hgrow hown'
      go_wp2
      go_ret
      exact ⟨ao, c, rfl, AtO.atp HO.out, hbz⟩
theorem iv_lsX {s : St} (h : Iv s) : ∃ r, ckL r false (lsX s.1 s.2) = 0 := by
  obtain ⟨r, f⟩ := s
  cases f with
  | nil => exact ⟨_, h.2.1⟩
  | cons c f => obtain ⟨n, a, k⟩ := c; exact ⟨_, h.1.2.2.2.2.2.1⟩
theorem ntx_lsX (s : St) : (ntxL (lsX s.1 s.2)).length ≤ (ntxS s).length := by
  obtain ⟨r, f⟩ := s
  cases f with
  | nil => simp [lsX, ntxS]
  | cons c f => obtain ⟨n, a, k⟩ := c; simp [lsX, ntxS, ntxF]; omega
/-- A text is put. -/
theorem put_tx (base b : Nat) (P : Nat → Prop) (s : St) (x : List UInt8) (w : World) (hB : BdS w base b P s) (hbw : base ≤ w.heap.size) (hI : Iv s) (hc : cntS s ≤ 100000) (ht : (ntxS s).length + x.length ≤ 1099511627776) :
    Calls Tryz.prog 121 #[.pointer (some ⟨b, 0, none⟩), .agg #[.string ⟨#[]⟩, .slice none 0 0, .string ⟨x.toArray⟩, .slice none 0 0]] w fun e w' => e = .returned (.tuple #[]) ∧ BdS w' base b P (put s (.mk [] [] x [])) ∧ Below base w w' ∧ Still P w w' := by
  have h8 := iv_len hI.1
  have hlx : (lsX s.1 s.2).length ≤ 1000000 := by have := lsX_le s.1 s.2; show _ ≤ _; have e : cntS (s.1, s.2) = cntS s := rfl; omega
  rcases List.eq_nil_or_concat (lsX s.1 s.2) with h0 | ⟨o, c, h0⟩
  · exact put_cC base b P s (.mk [] [] x []) _ _ w hB (AtP.nil _ _) (NdS.nil _ _) hbw hlx (by omega) rfl h0
  · rw [List.concat_eq_append] at h0
    by_cases hn : c.n = []
    · obtain ⟨r, hr⟩ := iv_lsX hI
      rw [h0] at hr
      obtain ⟨-, g1⟩ := ckL_init r o false c hr
      cases c with
      | mk n a t k =>
        simp only [Nd.n] at hn
        subst hn
        obtain ⟨g2, -, -⟩ := ckN_mk g1
        obtain ⟨-, rfl, rfl⟩ := ndE_tx g2
        have := ntx_lsX s
        rw [h0, ntx_app] at this
        simp only [List.length_append, ntxL, ntxN, List.length_nil] at this
        exact put_cA base b P s (.mk [] [] x []) _ _ w hB (AtP.nil _ _) (NdS.nil _ _) hbw hlx (by omega) rfl o t h0 (by simp only [Nd.x]; omega)
    · exact put_cD base b P s (.mk [] [] x []) _ _ w hB (AtP.nil _ _) (NdS.nil _ _) hbw hlx (by omega) rfl o c h0 hn
end Go.Proofs.YthnpljkekhieiaaGreatDoor

namespace Go.Proofs.YthnpljkekhieiaaGreatDoor
open Go.RowKit

/-- A row that is owned, appended to a row that is owned. -/
theorem run_append_row {P : Program} (w : World) (base base2 : Nat) (t ty e : TypeId) (i : TypeInfo) (z : Value) (size bytes : Nat) (ht : P.underlying t = some (.slice e)) (hi : P.info? e = some i) (hz : i.zero = some z)
    (hsize : i.size = size) (hby : i.bytes = bytes) (hzs : z.cells.size = size) (hsz : 0 < size)
    (v : Value) (n : Nat) (xs : List Value) (hown : w.ownsRow base e size v n xs) (u : Value) (m : Nat) (ys : List Value) (hu : w.ownsRow base2 e size u m ys) (h1 : ∀ x ∈ ys, x.oneCell' = true)
    (h63 : n + m ≤ maxLen) (hbytes : (n + m) * bytes ≤ 140737488355328) (hbase : base ≤ w.heap.size) :
    ∃ v' w', (Builtin.append_ #[t, t] ty #[v, u]).run P w = .ok v' w' ∧ w'.ownsRow base e size v' (n + m) (xs ++ ys) ∧ w.grownBy w' v.ownBlock := by
  have hu' := hu
  rcases hu.2 with ⟨rfl, rfl⟩ | ⟨g, cap, cur, rfl, _, hg, hnc, hcm, hcs, htake⟩
  · have hy : ys = [] := List.eq_nil_of_length_eq_zero (by simpa using hu.1)
    subst hy
    exact ⟨v, w, run_append_owned_none w base t ty e i size ht hi v n xs hown, by simpa using hown, gb_bl (b := v.ownBlock) (Bl.refl w)⟩
  · obtain ⟨v', w', hr, h2, h3, _⟩ := run_append_own (P := P) w base t ty e i z size bytes ht hi hz hsize hby hzs hsz v n xs hown ⟨g, 0, none⟩ m cap ys hu.1 (fun j x hj => World.ownsRow.cells hu' (g := g) rfl _ _ hj) h1 h63 hbytes hbase
    exact ⟨v', w', hr, h2, h3⟩
theorem wpList_append_row {P : Program} (w : World) {ops : Array Oper} {rest : List Oper} {o : Oper} {a : Act} {Q : Exit → Act → World → Prop} (hgd : o.guard = none) (s x : Operand) (t : TypeId)
    (ho : o.op = .call { callee := .builtin .append, args := #[s, x], argTypes := #[t, t] })
    (base base2 : Nat) (e : TypeId) (i : TypeInfo) (z : Value) (size bytes : Nat) (ht : P.underlying t = some (.slice e)) (hi : P.info? e = some i) (hz : i.zero = some z)
    (hsize : i.size = size) (hby : i.bytes = bytes) (hzs : z.cells.size = size) (hsz : 0 < size)
    (v : Value) (n : Nat) (xs : List Value) (hs : a.eval s = v) (hown : w.ownsRow base e size v n xs) (u : Value) (m : Nat) (ys : List Value) (hx : a.eval x = u) (hu : w.ownsRow base2 e size u m ys) (h1 : ∀ x ∈ ys, x.oneCell' = true)
    (h63 : n + m ≤ maxLen) (hbytes : (n + m) * bytes ≤ 140737488355328) (hbase : base ≤ w.heap.size)
    (h : ∀ v' w', w'.ownsRow base e size v' (n + m) (xs ++ ys) → w.grownBy w' v.ownBlock → wpList P ops Q rest (a.put o.dst v') w') : wpList P ops Q (o :: rest) a w := by
  refine wpList_plain hgd fun K hK => ?_
  obtain ⟨v', w', hr, h2, h3⟩ := run_append_row (P := P) w base base2 t o.type e i z size bytes ht hi hz hsize hby hzs hsz v n xs hown u m ys hu h1 h63 hbytes hbase
  unfold Oper.wp execOp
  simp only [ho, resolve, invoke, builtin, Sem.run_bind, Sem.run_pure, Result.andThen_ok, List.map_toArray, List.map_cons, List.map_nil, hs, hx, hr]
  exact hK _ _ (h v' w' h2 h3)
theorem tkC_one (l : List (Tok × Value)) (h : ∀ p ∈ l, p.2.oneCell' = true) : ∀ u ∈ tkC l, u.oneCell' = true := by
  intro u hu
  simp only [tkC, List.mem_flatMap] at hu
  obtain ⟨p, hp, hu⟩ := hu
  simp only [List.mem_cons, List.not_mem_nil, or_false] at hu
  rcases hu with rfl | rfl | rfl | rfl
  · rfl
  · rfl
  · exact h p hp
  · rfl
theorem tkC_app (l m : List (Tok × Value)) : tkC (l ++ m) = tkC l ++ tkC m := by simp [tkC]
theorem AtO.one {w : World} {base : Nat} {v : Value} {l : List Atr} (h : AtO w base v l) : v.oneCell' = true := by
  obtain ⟨ao, c, rfl⟩ := h.shape; rfl
/-- Tokens have been appended to tokens. -/
theorem tks_meet {w0 wz : World} {base : Nat} {v v' : Value} {l m : List Tok} {ents ents2 : List (Tok × Value)} (h1 : ents.map (·.1) = l) (h2 : w0.ownsRow base 104 4 v ents.length (tkC ents)) (h3 : ∀ p ∈ ents, AtO w0 base p.2 p.1.2.2.1)
    (k1 : ents2.map (·.1) = m) (k3 : ∀ p ∈ ents2, AtO w0 base p.2 p.1.2.2.1)
    (hown' : wz.ownsRow base 104 4 v' (ents.length + ents2.length) (tkC ents ++ tkC ents2)) (hgrow : w0.grownBy wz v.ownBlock) : TkO wz base v' (l ++ m) := by
  refine ⟨ents ++ ents2, by simp [h1, k1], by rw [tkC_app, List.length_append]; exact hown', fun p hp => ?_⟩
  have key : ∀ (pv : Value) (pa : List Atr), AtO w0 base pv pa → AtO wz base pv pa := fun pv pa h => World.ownsRow.kept h hgrow (two_rows h h2 (by decide))
  rcases List.mem_append.1 hp with hp | hp
  · exact key _ _ (h3 p hp)
  · exact key _ _ (k3 p hp)
set_option maxHeartbeats 1000000 in
theorem clone_o (l : List Atr) (v : Value) (hl : l.length ≤ 100000000) (w : World) (hA : AtS w v l) :
    Calls Tryz.prog 104 #[v] w fun e w' => ∃ v', e = .returned v' ∧ AtO w' w.heap.size v' l ∧ Bl w w' := by
  obtain ⟨i0, hi, hz0, hz1, hz2⟩ := info_parts Tryz.infoAtr
  have hA' := hA
  obtain ⟨ao, cap, rfl, hA⟩ := hA
  have hnil := fun (W : World) (a : Option Addr) (n c : Nat) => Lib.run_eql_slice_nil (P := Tryz.prog) W 97 102 a n c 0 0 Tryz.underlying97
  cases ao with
  | none =>
    have h0 : l = [] := by
      rcases l with _ | ⟨a, l⟩
      · rfl
      · obtain ⟨g, o, e, _⟩ := hA 0 (by simp); cases e
    subst h0
    clear hA hA'
    go_enter Tryz.func104, Tryz.ntmps104
    go_wp2
    go_ret
    exact ⟨_, rfl, AtO.nil _ _, Bl.refl _⟩
  | some a =>
    by_cases h0 : l = []
    · subst h0
      clear hA hA'
      go_enter Tryz.func104, Tryz.ntmps104
      go_wp2
      go_ret
      exact ⟨_, rfl, World.ownsRow_made (base := w.heap.size) (e := 102) (size := 2) w #[] 0 (Nat.le_refl _) (by decide) rfl, (Bl.refl _).alloc _⟩
    · have hpos := List.length_pos_iff.2 h0
      obtain ⟨g, o, e, _⟩ := hA 0 hpos
      cases e
      have HN := Lib.hid hA'
      clear hA hA' h0
      go_enter Tryz.func104, Tryz.ntmps104
      go_wp2_with (first | (at_builtin; (refine wpList_append_own _ rfl _ _ 97 rfl w.heap.size 102 i0 (.agg #[.string ⟨#[]⟩, .string ⟨#[]⟩]) 2 32 Tryz.underlying97 hi hz0 hz1 hz2 rfl (by decide) (.slice (some ⟨w.heap.size, 0, none⟩) 0 0) 0 [] rfl (World.ownsRow_made (base := w.heap.size) (e := 102) (size := 2) w #[] 0 (Nat.le_refl _) (by decide) rfl) ⟨g, o, none⟩ l.length cap (atC l) rfl (atC_len l) (ats_news (HN.out.of_bl ((Bl.refl _).alloc _))) (atC_one l) (by unfold maxLen; omega) (by omega) (by simp) ?_)))
      intro v' wz hown' hgrow _
      have hbz : Bl w wz := Below.trans ((Bl.refl w).alloc _) (bel_gr hgrow (fun j hj => by simp only [Value.ownBlock, Option.some.injEq] at hj; omega) (by simp))
      have HO := Lib.hid hown'
      obtain ⟨ao, c, rfl, -⟩ := own_shp hown'
      clear hgrow hown'
      go_wp2
      go_ret
      refine ⟨_, rfl, ?_, hbz⟩
      have := HO.out
      unfold AtO
      simpa using this
end Go.Proofs.YthnpljkekhieiaaGreatDoor

namespace Go.Proofs.YthnpljkekhieiaaGreatDoor
open Go.RowKit

theorem cnt_len (l : List Nd) : l.length ≤ cntL l := by
  induction l with
  | nil => simp [cntL]
  | cons d l ih => cases d with
    | mk n a x k => simp only [List.length_cons, cntL, cntN]; omega
end Go.Proofs.YthnpljkekhieiaaGreatDoor

namespace Go.Proofs.YthnpljkekhieiaaGreatDoor
open Go.RowKit

instance decAtr : DecidableEq Atr := inferInstanceAs (DecidableEq (List UInt8 × List UInt8))
instance decTok : DecidableEq Tok := inferInstanceAs (DecidableEq (Int × List UInt8 × List Atr × List UInt8))
end Go.Proofs.YthnpljkekhieiaaGreatDoor

namespace Go.Proofs.YthnpljkekhieiaaGreatDoor
open Go.RowKit

def wtA (l : List Atr) : Nat := (l.map fun a => 1 + a.1.length + a.2.length).sum
mutual
/-- How much nodes weigh. -/
def wtN : Nd → Nat
  | .mk n a x k => 1 + n.length + wtA a + x.length + wtL k
def wtL : List Nd → Nat
  | [] => 0
  | d :: l => wtN d + wtL l
end
theorem wtA_len (l : List Atr) : l.length ≤ wtA l := by
  induction l with
  | nil => simp
  | cons a l ih => simp only [wtA, List.map_cons, List.sum_cons, List.length_cons] at *; omega
theorem wt_get : ∀ (l : List Nd) (i : Nat) (h : i < l.length), 1 + l[i].n.length + wtA l[i].a + l[i].x.length + wtL l[i].k ≤ wtL l := by
  intro l
  induction l with
  | nil => intro i h; simp at h
  | cons d l ih =>
    intro i h
    cases d with
    | mk n a x k =>
      cases i with
      | zero => simp only [List.getElem_cons_zero, Nd.n, Nd.a, Nd.x, Nd.k, wtL, wtN]; omega
      | succ i => have := ih i (by simpa using h); simp only [List.getElem_cons_succ, wtL, wtN]; omega
theorem wt_cnt (l : List Nd) : cntL l ≤ wtL l := by
  induction l using Nd.ind with
  | h0 => simp [cntL]
  | h1 n a x k l ik il => simp only [cntL, cntN, wtL, wtN]; omega
end Go.Proofs.YthnpljkekhieiaaGreatDoor

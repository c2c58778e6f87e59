/- Trees: a row appended to an own row; attributes cloned as an own row. -/
import Derived.Test.YtjclpmpphkmpdaaGreatDoorGrpM
import Derived.Test.YtjclpmpphkmpdaaGreatDoorTokK
import Derived.Laws.OwnMore
namespace Go.Proofs.YtjclpmpphkmpdaaGreatDoor
open Go.RowKit

/-- A row that is owned, appended to a row that is owned. -/
theorem run_append_row {P : Program} (w : World) (base base2 : Nat) (t ty e : TypeId) (i : TypeInfo) (z : Value) (size bytes : Nat) (ht : P.underlying t = some (.slice e)) (hi : P.info? e = some i) (hz : i.zero = some z)
    (hsize : i.size = size) (hby : i.bytes = bytes) (hzs : z.cells.size = size) (hsz : 0 < size)
    (v : Value) (n : Nat) (xs : List Value) (hown : w.ownsRow base e size v n xs) (u : Value) (m : Nat) (ys : List Value) (hu : w.ownsRow base2 e size u m ys) (h1 : ∀ x ∈ ys, x.oneCell' = true)
    (h63 : n + m ≤ maxLen) (hbytes : (n + m) * bytes ≤ 140737488355328) (hbase : base ≤ w.heap.size) :
    ∃ v' w', (Builtin.append_ #[t, t] ty #[v, u]).run P w = .ok v' w' ∧ w'.ownsRow base e size v' (n + m) (xs ++ ys) ∧ w.grownBy w' v.ownBlock := by
  have hu' := hu
  rcases hu.2 with ⟨rfl, rfl⟩ | ⟨g, cap, cur, rfl, _, hg, hnc, hcm, hcs, htake⟩
  · have hy : ys = [] := List.eq_nil_of_length_eq_zero (by simpa using hu.1)
    subst hy
    exact ⟨v, w, run_append_owned_none w base t ty e i size ht hi v n xs hown, by simpa using hown, gb_bl (b := v.ownBlock) (Bl.refl w)⟩
  · obtain ⟨v', w', hr, h2, h3, _⟩ := run_append_own (P := P) w base t ty e i z size bytes ht hi hz hsize hby hzs hsz v n xs hown ⟨g, 0, none⟩ m cap ys hu.1 (fun j x hj => World.ownsRow.cells hu' (g := g) rfl _ _ hj) h1 h63 hbytes hbase
    exact ⟨v', w', hr, h2, h3⟩
theorem step_append_row {P : Program} {ops : Array Oper} {o : Oper} {a : Act} {w : World} {K : Act → World → Prop} {Q : Exit → Act → World → Prop} {E : Prop}
    (hgd : o.guard = none) (s x : Operand) (t : TypeId) (hop : o.op = Op.call { callee := Callee.builtin Builtin.append, args := #[s, x], argTypes := #[t, t] })
    (base base2 : Nat) (e : TypeId) (i : TypeInfo) (z : Value) (size bytes : Nat) (ht : P.underlying t = some (.slice e)) (hi : P.info? e = some i) (hz : i.zero = some z)
    (hsize : i.size = size) (hby : i.bytes = bytes) (hzs : z.cells.size = size) (hsz : 0 < size)
    (v : Value) (n : Nat) (xs : List Value) (hs : a.eval s = v) (hown : w.ownsRow base e size v n xs) (u : Value) (m : Nat) (ys : List Value) (hx : a.eval x = u) (hu : w.ownsRow base2 e size u m ys) (h1 : ∀ x ∈ ys, x.oneCell' = true)
    (h63 : n + m ≤ maxLen) (hbytes : (n + m) * bytes ≤ 140737488355328) (hbase : base ≤ w.heap.size)
    (hK : ∀ v' w', w'.ownsRow base e size v' (n + m) (xs ++ ys) → w.grownBy w' v.ownBlock → K (a.put o.dst v') w') :
    if Region.wanted o (yielded ops a.tmps) = true then Oper.wp P o a w K Q else E := by
  have hw : Region.wanted o (yielded ops a.tmps) = true := by simp [Region.wanted, hgd]
  rw [if_pos hw]
  obtain ⟨v', w', hrun, h2, h3⟩ := run_append_row (P := P) w base base2 t o.type e i z size bytes ht hi hz hsize hby hzs hsz v n xs hown u m ys hu h1 h63 hbytes hbase
  unfold Oper.wp
  simp [execOp, hop, resolve, invoke, builtin, hs, hx, hrun, Result.andThen]
  exact hK v' w' h2 h3
theorem wpList_append_row {P : Program} (w : World) {ops : Array Oper} {rest : List Oper} {o : Oper} {a : Act} {Q : Exit → Act → World → Prop} (hgd : o.guard = none) (s x : Operand) (t : TypeId)
    (ho : o.op = .call { callee := .builtin .append, args := #[s, x], argTypes := #[t, t] })
    (base base2 : Nat) (e : TypeId) (i : TypeInfo) (z : Value) (size bytes : Nat) (ht : P.underlying t = some (.slice e)) (hi : P.info? e = some i) (hz : i.zero = some z)
    (hsize : i.size = size) (hby : i.bytes = bytes) (hzs : z.cells.size = size) (hsz : 0 < size)
    (v : Value) (n : Nat) (xs : List Value) (hs : a.eval s = v) (hown : w.ownsRow base e size v n xs) (u : Value) (m : Nat) (ys : List Value) (hx : a.eval x = u) (hu : w.ownsRow base2 e size u m ys) (h1 : ∀ x ∈ ys, x.oneCell' = true)
    (h63 : n + m ≤ maxLen) (hbytes : (n + m) * bytes ≤ 140737488355328) (hbase : base ≤ w.heap.size)
    (h : ∀ v' w', w'.ownsRow base e size v' (n + m) (xs ++ ys) → w.grownBy w' v.ownBlock → wpList P ops Q rest (a.put o.dst v') w') : wpList P ops Q (o :: rest) a w := by
  refine wpList_plain hgd fun K hK => ?_
  obtain ⟨v', w', hr, h2, h3⟩ := run_append_row (P := P) w base base2 t o.type e i z size bytes ht hi hz hsize hby hzs hsz v n xs hown u m ys hu h1 h63 hbytes hbase
  unfold Oper.wp execOp
  simp only [ho, resolve, invoke, builtin, Sem.run_bind, Sem.run_pure, Result.andThen_ok, List.map_toArray, List.map_cons, List.map_nil, hs, hx, hr]
  exact hK _ _ (h v' w' h2 h3)
theorem tkC_one (l : List (Tok × Value)) (h : ∀ p ∈ l, p.2.oneCell' = true) : ∀ u ∈ tkC l, u.oneCell' = true := by
  intro u hu
  simp only [tkC, List.mem_flatMap] at hu
  obtain ⟨p, hp, hu⟩ := hu
  simp only [List.mem_cons, List.not_mem_nil, or_false] at hu
  rcases hu with rfl | rfl | rfl | rfl
  · rfl
  · rfl
  · exact h p hp
  · rfl
theorem tkC_app (l m : List (Tok × Value)) : tkC (l ++ m) = tkC l ++ tkC m := by simp [tkC]
theorem AtO.one {w : World} {base : Nat} {v : Value} {l : List Atr} (h : AtO w base v l) : v.oneCell' = true := by
  obtain ⟨ao, c, rfl⟩ := h.shape; rfl
/-- Tokens have been appended to tokens. -/
theorem tks_meet {w0 wz : World} {base : Nat} {v v' : Value} {l m : List Tok} {ents ents2 : List (Tok × Value)} (h1 : ents.map (·.1) = l) (h2 : w0.ownsRow base 41 4 v ents.length (tkC ents)) (h3 : ∀ p ∈ ents, AtO w0 base p.2 p.1.2.2.1)
    (k1 : ents2.map (·.1) = m) (k3 : ∀ p ∈ ents2, AtO w0 base p.2 p.1.2.2.1)
    (hown' : wz.ownsRow base 41 4 v' (ents.length + ents2.length) (tkC ents ++ tkC ents2)) (hgrow : w0.grownBy wz v.ownBlock) : TkO wz base v' (l ++ m) := by
  refine ⟨ents ++ ents2, by simp [h1, k1], by rw [tkC_app, List.length_append]; exact hown', fun p hp => ?_⟩
  have key : ∀ (pv : Value) (pa : List Atr), AtO w0 base pv pa → AtO wz base pv pa := fun pv pa h => World.ownsRow.kept h hgrow (two_rows h h2 (by decide))
  rcases List.mem_append.1 hp with hp | hp
  · exact key _ _ (h3 p hp)
  · exact key _ _ (k3 p hp)
set_option maxHeartbeats 1000000 in
theorem clone_o (l : List Atr) (v : Value) (hl : l.length ≤ 100000000) (w : World) (hA : AtS w v l) :
    Calls Tryz.prog 37 #[v] w fun e w' => ∃ v', e = .returned v' ∧ AtO w' w.heap.size v' l ∧ Bl w w' := by
  obtain ⟨i0, hi, hz0, hz1, hz2⟩ := info_parts Tryz.infoAtr
  have hA' := hA
  obtain ⟨ao, cap, rfl, hA⟩ := hA
  have hnil := fun (W : World) (a : Option Addr) (n c : Nat) => Lib.run_eql_slice_nil (P := Tryz.prog) W 39 69 a n c 0 0 Tryz.underlying39
  cases ao with
  | none =>
    have h0 : l = [] := by
      rcases l with _ | ⟨a, l⟩
      · rfl
      · obtain ⟨g, o, e, _⟩ := hA 0 (by simp); cases e
    subst h0
    clear hA hA'
    go_enter Tryz.func37, Tryz.ntmps37
    go_wp2
    go_ret
    exact ⟨_, rfl, AtO.nil _ _, Bl.refl _⟩
  | some a =>
    by_cases h0 : l = []
    · subst h0
      clear hA hA'
      go_enter Tryz.func37, Tryz.ntmps37
      go_wp2
      go_ret
      exact ⟨_, rfl, World.ownsRow_made (base := w.heap.size) (e := 69) (size := 2) w #[] 0 (Nat.le_refl _) (by decide) rfl, (Bl.refl _).alloc _⟩
    · have hpos := List.length_pos_iff.2 h0
      obtain ⟨g, o, e, _⟩ := hA 0 hpos
      cases e
      have HN := Lib.hid hA'
      clear hA hA' h0
      go_enter Tryz.func37, Tryz.ntmps37
      go_wp2_with (first | (at_builtin; (refine wpList_append_own _ rfl _ _ 39 rfl w.heap.size 69 i0 (.agg #[.string ⟨#[]⟩, .string ⟨#[]⟩]) 2 32 Tryz.underlying39 hi hz0 hz1 hz2 rfl (by decide) (.slice (some ⟨w.heap.size, 0, none⟩) 0 0) 0 [] rfl (World.ownsRow_made (base := w.heap.size) (e := 69) (size := 2) w #[] 0 (Nat.le_refl _) (by decide) rfl) ⟨g, o, none⟩ l.length cap (atC l) rfl (atC_len l) (ats_news (HN.out.of_bl ((Bl.refl _).alloc _))) (atC_one l) (by unfold maxLen; omega) (by omega) (by simp) ?_)))
      intro v' wz hown' hgrow _
      have hbz : Bl w wz := Below.trans ((Bl.refl w).alloc _) (bel_gr hgrow (fun j hj => by simp only [Value.ownBlock, Option.some.injEq] at hj; omega) (by simp))
      have HO := Lib.hid hown'
      obtain ⟨ao, c, rfl, -⟩ := own_shp hown'
      clear hgrow hown'
      go_wp2
      go_ret
      refine ⟨_, rfl, ?_, hbz⟩
      have := HO.out
      unfold AtO
      simpa using this
end Go.Proofs.YtjclpmpphkmpdaaGreatDoor

/- Trees: slices.Clone of attributes; put of a text. · Tokens: the call's own tokens in memory; flush. -/
import Derived.Test.YtjclpmpphkmpdaaGreatDoorGrpL
import Derived.Test.YtjclpmpphkmpdaaGreatDoorTreIb
import Derived.Test.YtjclpmpphkmpdaaGreatDoorTreIc
import Derived.Test.YtjclpmpphkmpdaaGreatDoorTokI
import Derived.Deep.RegionLaw
namespace Go.Proofs.YtjclpmpphkmpdaaGreatDoor
open Go.RowKit

theorem add_spot (g o j : Nat) : (⟨g, o, none⟩ : Addr).add j = ⟨g, o + j, none⟩ := by unfold Addr.add; split <;> simp_all
theorem atC_at : ∀ (l : List Atr) (j : Nat) (u : Value), (atC l)[j]? = some u → ∃ i, ∃ h : i < l.length, (j = i * 2 ∧ u = .string ⟨l[i].1.toArray⟩) ∨ (j = i * 2 + 1 ∧ u = .string ⟨l[i].2.toArray⟩) := by
  intro l
  induction l with
  | nil => intro j u h; simp [atC] at h
  | cons a l ih =>
    intro j u h
    have e : atC (a :: l) = .string ⟨a.1.toArray⟩ :: .string ⟨a.2.toArray⟩ :: atC l := rfl
    rw [e] at h
    match j, h with
    | 0, h => exact ⟨0, by simp, .inl ⟨rfl, by simpa using h.symm⟩⟩
    | 1, h => exact ⟨0, by simp, .inr ⟨rfl, by simpa using h.symm⟩⟩
    | j + 2, h =>
      obtain ⟨i, hi, h2⟩ := ih j u (by simpa using h)
      refine ⟨i + 1, by simp; omega, ?_⟩
      rcases h2 with ⟨e1, e2⟩ | ⟨e1, e2⟩
      · exact .inl ⟨by omega, by simpa using e2⟩
      · exact .inr ⟨by omega, by simpa using e2⟩
theorem atC_one (l : List Atr) : ∀ u ∈ atC l, u.oneCell' = true := by
  intro u hu
  obtain ⟨j, hj, rfl⟩ := List.mem_iff_getElem.1 hu
  obtain ⟨i, hi, h⟩ := atC_at l j _ (List.getElem?_eq_getElem hj)
  rcases h with ⟨_, e⟩ | ⟨_, e⟩ <;> rw [e] <;> rfl
theorem ats_news {w : World} {g o c : Nat} {l : List Atr} (h : AtS w (.slice (some ⟨g, o, none⟩) l.length c) l) : ∀ j u, (atC l)[j]? = some u → w.cell? ((⟨g, o, none⟩ : Addr).add j) = some u := by
  intro j u hj
  obtain ⟨ao, cap, e, h⟩ := h
  cases e
  rw [add_spot]
  obtain ⟨i, hi, h2⟩ := atC_at l j u hj
  obtain ⟨g', o', e, _, h3, h4⟩ := h i hi
  cases e
  rcases h2 with ⟨rfl, rfl⟩ | ⟨rfl, rfl⟩
  · exact h3
  · rw [← Nat.add_assoc]; exact h4
theorem AtO.atp {w : World} {base : Nat} {v : Value} {l : List Atr} (h : AtO w base v l) : AtP w (fun k => base ≤ k ∧ k < w.heap.size) v l := by
  have h2 := h.ats
  obtain ⟨ao, cap, rfl, hc⟩ := h2
  have hcap : l.length ≤ cap := by
    rcases h.2 with ⟨e, h0⟩ | ⟨g, cap', cur, e, _, _, hnc, _⟩
    · simp only [Value.slice.injEq] at e; omega
    · simp only [Value.slice.injEq] at e; omega
  refine ⟨ao, cap, rfl, hcap, fun i hi => ?_⟩
  obtain ⟨g, o, rfl, h3, h4, h5⟩ := hc i hi
  exact ⟨g, o, rfl, h3, ⟨((World.ownsRow.lt h) g rfl).1, h3⟩, h4, h5⟩
set_option maxHeartbeats 1000000 in
theorem clone_c (l : List Atr) (v : Value) (hl : l.length ≤ 100000000) (w : World) (hA : AtS w v l) :
    Calls Tryz.prog 37 #[v] w fun e w' => ∃ ao c, e = .returned (.slice ao l.length c) ∧ AtP w' (fun k => w.heap.size ≤ k ∧ k < w'.heap.size) (.slice ao l.length c) l ∧ Bl w w' := by
  obtain ⟨i0, hi, hz0, hz1, hz2⟩ := info_parts Tryz.infoAtr
  have hA' := hA
  obtain ⟨ao, cap, rfl, hA⟩ := hA
  have hnil := fun (W : World) (a : Option Addr) (n c : Nat) => Lib.run_eql_slice_nil (P := Tryz.prog) W 39 69 a n c 0 0 Tryz.underlying39
  cases ao with
  | none =>
    have h0 : l = [] := by
      rcases l with _ | ⟨a, l⟩
      · rfl
      · obtain ⟨g, o, e, _⟩ := hA 0 (by simp); cases e
    subst h0
    clear hA hA'
    go_enter Tryz.func37, Tryz.ntmps37
    go_wp2
    go_ret
    exact ⟨none, 0, rfl, AtP.nil _ _, Bl.refl _⟩
  | some a =>
    by_cases h0 : l = []
    · subst h0
      clear hA hA'
      go_enter Tryz.func37, Tryz.ntmps37
      go_wp2
      go_ret
      exact ⟨some ⟨w.heap.size, 0, none⟩, 0, rfl, ⟨_, _, rfl, Nat.le_refl _, fun i hi => by simp at hi⟩, (Bl.refl _).alloc _⟩
    · have hpos := List.length_pos_iff.2 h0
      obtain ⟨g, o, e, _⟩ := hA 0 hpos
      cases e
      have HN := Lib.hid hA'
      clear hA hA' h0
      go_enter Tryz.func37, Tryz.ntmps37
      go_wp2_with (first | (at_builtin; (refine wpList_append_own _ rfl _ _ 39 rfl w.heap.size 69 i0 (.agg #[.string ⟨#[]⟩, .string ⟨#[]⟩]) 2 32 Tryz.underlying39 hi hz0 hz1 hz2 rfl (by decide) (.slice (some ⟨w.heap.size, 0, none⟩) 0 0) 0 [] rfl (World.ownsRow_made (base := w.heap.size) (e := 69) (size := 2) w #[] 0 (Nat.le_refl _) (by decide) rfl) ⟨g, o, none⟩ l.length cap (atC l) rfl (atC_len l) (ats_news (HN.out.of_bl ((Bl.refl _).alloc _))) (atC_one l) (by unfold maxLen; omega) (by omega) (by simp) ?_)))
      intro v' wz hown' hgrow _
      have hbz : Bl w wz := Below.trans ((Bl.refl w).alloc _) (bel_gr hgrow (fun j hj => by simp only [Value.ownBlock, Option.some.injEq] at hj; omega) (by simp))
      have HO := Lib.hid hown'
      obtain ⟨ao, c, rfl, -⟩ := own_shp hown'
      clear hgrow hown'
      go_wp2
      go_ret
      exact ⟨ao, c, rfl, AtO.atp HO.out, hbz⟩
theorem iv_lsX {s : St} (h : Iv s) : ∃ r, ckL r false (lsX s.1 s.2) = 0 := by
  obtain ⟨r, f⟩ := s
  cases f with
  | nil => exact ⟨_, h.2.1⟩
  | cons c f => obtain ⟨n, a, k⟩ := c; exact ⟨_, h.1.2.2.2.2.2.1⟩
theorem ntx_lsX (s : St) : (ntxL (lsX s.1 s.2)).length ≤ (ntxS s).length := by
  obtain ⟨r, f⟩ := s
  cases f with
  | nil => simp [lsX, ntxS]
  | cons c f => obtain ⟨n, a, k⟩ := c; simp [lsX, ntxS, ntxF]; omega
/-- A text is put. -/
theorem put_tx (base b : Nat) (P : Nat → Prop) (s : St) (x : List UInt8) (w : World) (hB : BdS w base b P s) (hbw : base ≤ w.heap.size) (hI : Iv s) (hc : cntS s ≤ 100000) (ht : (ntxS s).length + x.length ≤ 1099511627776) :
    Calls Tryz.prog 45 #[.pointer (some ⟨b, 0, none⟩), .agg #[.string ⟨#[]⟩, .slice none 0 0, .string ⟨x.toArray⟩, .slice none 0 0]] w fun e w' => e = .returned (.tuple #[]) ∧ BdS w' base b P (put s (.mk [] [] x [])) ∧ Below base w w' ∧ Still P w w' := by
  have h8 := iv_len hI.1
  have hlx : (lsX s.1 s.2).length ≤ 1000000 := by have := lsX_le s.1 s.2; show _ ≤ _; have e : cntS (s.1, s.2) = cntS s := rfl; omega
  rcases List.eq_nil_or_concat (lsX s.1 s.2) with h0 | ⟨o, c, h0⟩
  · exact put_cC base b P s (.mk [] [] x []) _ _ w hB (AtP.nil _ _) (NdS.nil _ _) hbw hlx (by omega) rfl h0
  · rw [List.concat_eq_append] at h0
    by_cases hn : c.n = []
    · obtain ⟨r, hr⟩ := iv_lsX hI
      rw [h0] at hr
      obtain ⟨-, g1⟩ := ckL_init r o false c hr
      cases c with
      | mk n a t k =>
        simp only [Nd.n] at hn
        subst hn
        obtain ⟨g2, -, -⟩ := ckN_mk g1
        obtain ⟨-, rfl, rfl⟩ := ndE_tx g2
        have := ntx_lsX s
        rw [h0, ntx_app] at this
        simp only [List.length_append, ntxL, ntxN, List.length_nil] at this
        exact put_cA base b P s (.mk [] [] x []) _ _ w hB (AtP.nil _ _) (NdS.nil _ _) hbw hlx (by omega) rfl o t h0 (by simp only [Nd.x]; omega)
    · exact put_cD base b P s (.mk [] [] x []) _ _ w hB (AtP.nil _ _) (NdS.nil _ _) hbw hlx (by omega) rfl o c h0 hn
end Go.Proofs.YtjclpmpphkmpdaaGreatDoor

namespace Go.Proofs.YtjclpmpphkmpdaaGreatDoor
open Go.RowKit

/-- append to an own slice, as one step of a region that draws. -/
theorem step_append_own {P : Program} {ops : Array Oper} {o : Oper} {a : Act} {w : World} {K : Act → World → Prop} {Q : Exit → Act → World → Prop} {E : Prop}
    (hgd : o.guard = none) (s x : Operand) (t : TypeId) (hop : o.op = Op.call { callee := Callee.builtin Builtin.append, args := #[s, x], argTypes := #[t, t] })
    (base : Nat) (e : TypeId) (i : TypeInfo) (z : Value) (size bytes : Nat) (ht : P.underlying t = some (.slice e)) (hi : P.info? e = some i) (hz : i.zero = some z)
    (hsize : i.size = size) (hby : i.bytes = bytes) (hzs : z.cells.size = size) (hsz : 0 < size)
    (v : Value) (n : Nat) (xs : List Value) (hs : a.eval s = v) (hown : w.ownsRow base e size v n xs)
    (ad : Addr) (m c : Nat) (news : List Value) (hx : a.eval x = .slice (some ad) m c) (hl : news.length = m * size) (hnews : ∀ j u, news[j]? = some u → w.cell? (ad.add j) = some u) (h1 : ∀ u ∈ news, u.oneCell' = true)
    (h63 : n + m ≤ maxLen) (hbytes : (n + m) * bytes ≤ 140737488355328) (hbase : base ≤ w.heap.size)
    (hK : ∀ v' w', w'.ownsRow base e size v' (n + m) (xs ++ news) → w.grownBy w' v.ownBlock → K (a.put o.dst v') w') :
    if Region.wanted o (yielded ops a.tmps) = true then Oper.wp P o a w K Q else E := by
  have hw : Region.wanted o (yielded ops a.tmps) = true := by simp [Region.wanted, hgd]
  rw [if_pos hw]
  obtain ⟨v', w', hrun, h2, h3, -⟩ := run_append_own (P := P) w base t o.type e i z size bytes ht hi hz hsize hby hzs hsz v n xs hown ad m c news hl hnews h1 h63 hbytes hbase
  unfold Oper.wp
  simp [execOp, hop, resolve, invoke, builtin, hs, hx, hrun, Result.andThen]
  exact hK v' w' h2 h3

def tkC (l : List (Tok × Value)) : List Value := l.flatMap fun p => [.int .i64 p.1.1, .string ⟨p.1.2.1.toArray⟩, p.2, .string ⟨p.1.2.2.2.toArray⟩]
theorem tkC_snoc (l : List (Tok × Value)) (p : Tok × Value) : tkC (l ++ [p]) = tkC l ++ [.int .i64 p.1.1, .string ⟨p.1.2.1.toArray⟩, p.2, .string ⟨p.1.2.2.2.toArray⟩] := by simp [tkC]
theorem tkC_get : ∀ (l : List (Tok × Value)) (i : Nat) (h : i < l.length), (tkC l)[i * 4]? = some (.int .i64 l[i].1.1) ∧ (tkC l)[i * 4 + 1]? = some (.string ⟨l[i].1.2.1.toArray⟩) ∧ (tkC l)[i * 4 + 2]? = some l[i].2 ∧ (tkC l)[i * 4 + 3]? = some (.string ⟨l[i].1.2.2.2.toArray⟩) := by
  intro l
  induction l with
  | nil => intro i h; simp at h
  | cons a l ih =>
    intro i h
    cases i with
    | zero => simp [tkC]
    | succ i =>
      have := ih i (by simpa using h)
      have e : (i + 1) * 4 = i * 4 + 1 + 1 + 1 + 1 := by omega
      rw [e]
      simp only [tkC, List.flatMap_cons, List.cons_append, List.nil_append, List.getElem?_cons_succ, List.getElem_cons_succ] at *
      exact this
/-- The call's own tokens. -/
def TkO (w : World) (base : Nat) (v : Value) (l : List Tok) : Prop :=
  ∃ ents : List (Tok × Value), ents.map (·.1) = l ∧ w.ownsRow base 41 4 v ents.length (tkC ents) ∧ ∀ p ∈ ents, AtO w base p.2 p.1.2.2.1
theorem TkO.nil (w : World) (base : Nat) : TkO w base (.slice none 0 0) [] := ⟨[], rfl, World.ownsRow_nil _ _ _ _, fun p h => by cases h⟩
theorem gb_own {w : World} {base : Nat} {e : TypeId} {size n : Nat} {v : Value} {xs : List Value} {b : Nat} (h : w.ownsRow base e size v n xs) (hb : b < base) : v.ownBlock = none ∨ v.ownBlock ≠ some b := by
  cases hv : v.ownBlock with
  | none => exact Or.inl rfl
  | some k => right; have := (World.ownsRow.lt h k hv).1; simp; omega
theorem TkO.of_gb {w w' : World} {base : Nat} {v : Value} {l : List Tok} {b : Nat} (h : TkO w base v l) (hg : w.grownBy w' (some b)) (hb : b < base) : TkO w' base v l := by
  obtain ⟨ents, h1, h2, h3⟩ := h
  exact ⟨ents, h1, World.ownsRow.kept h2 hg (gb_own h2 hb), fun p hp => (h3 p hp).of_gb hg hb⟩
theorem TkO.of_bl {w w' : World} {base : Nat} {v : Value} {l : List Tok} (h : TkO w base v l) (hb : Bl w w') : TkO w' base v l := by
  obtain ⟨ents, h1, h2, h3⟩ := h
  exact ⟨ents, h1, World.ownsRow.kept h2 (gb_bl (b := none) hb) (by cases hv : v.ownBlock <;> simp), fun p hp => (h3 p hp).of_bl hb⟩
theorem TkO.lt {w : World} {base : Nat} {v : Value} {l : List Tok} (h : TkO w base v l) : ∀ k, v.ownBlock = some k → base ≤ k ∧ k < w.heap.size := by
  obtain ⟨ents, h1, h2, h3⟩ := h
  exact World.ownsRow.lt h2
/-- Rows of two types are two rows. -/
theorem two_rows {w : World} {b1 b2 : Nat} {e1 e2 : TypeId} {s1 s2 n1 n2 : Nat} {v1 v2 : Value} {x1 x2 : List Value} (h1 : w.ownsRow b1 e1 s1 v1 n1 x1) (h2 : w.ownsRow b2 e2 s2 v2 n2 x2) (he : e1 ≠ e2) : v1.ownBlock = none ∨ v1.ownBlock ≠ v2.ownBlock := by
  rcases h1.2 with ⟨rfl, _⟩ | ⟨g1, c1, u1, rfl, _, hg1, _⟩
  · exact Or.inl rfl
  · rcases h2.2 with ⟨rfl, _⟩ | ⟨g2, c2, u2, rfl, _, hg2, _⟩
    · right; simp [Value.ownBlock]
    · right
      simp only [Value.ownBlock, ne_eq, Option.some.injEq]
      rintro rfl
      rw [hg1] at hg2
      exact he (by simpa using (Option.some.inj hg2 |> Obj.cells.inj).2.1)
/-- A token has been appended. -/
theorem tk_meet {w0 wz : World} {base : Nat} {v v' va : Value} {l : List Tok} {t : Tok} {ents : List (Tok × Value)} (h1 : ents.map (·.1) = l) (h2 : w0.ownsRow base 41 4 v ents.length (tkC ents)) (h3 : ∀ p ∈ ents, AtO w0 base p.2 p.1.2.2.1)
    (ha : AtO w0 base va t.2.2.1) (hown' : wz.ownsRow base 41 4 v' (ents.length + 1) (tkC ents ++ [.int .i64 t.1, .string ⟨t.2.1.toArray⟩, va, .string ⟨t.2.2.2.toArray⟩])) (hgrow : w0.grownBy wz v.ownBlock) : TkO wz base v' (l ++ [t]) := by
  refine ⟨ents ++ [(t, va)], by simp [h1], by rw [tkC_snoc, List.length_append]; exact hown', fun p hp => ?_⟩
  have key : ∀ (pv : Value) (pa : List Atr), AtO w0 base pv pa → AtO wz base pv pa := fun pv pa h => World.ownsRow.kept h hgrow (two_rows h h2 (by decide))
  rcases List.mem_append.1 hp with hp | hp
  · exact key _ _ (h3 p hp)
  · rw [List.mem_singleton] at hp; subst hp; exact key _ _ ha
theorem AtO.nil (w : World) (base : Nat) : AtO w base (.slice none 0 0) [] := World.ownsRow_nil _ _ _ _
theorem Tryz.infoTok : (Tryz.prog.info? 41).map (fun i => (i.zero, i.size, i.bytes)) = some (some (.agg #[.int .i64 0, .string ⟨#[]⟩, .slice none 0 0, .string ⟨#[]⟩]), 4, 64) := by kernel_rfl
theorem ES.of_below {w W : World} {b : Nat} (h : ES w) (hb : Below b w W) (hE : 1 < b) : ES W := by
  obtain ⟨te, pe, h1, h2⟩ := h
  exact ⟨te, pe, Nat.lt_of_lt_of_le h1 (Below.size hb), (Below.cell hb (p := ⟨1, 0, none⟩) hE).trans h2⟩
theorem ML.of_below {w W : World} {b : Nat} (h : ML w) (hb : Below b w W) (hE : 0 < b) : ML W := by
  obtain ⟨m, h1, h2⟩ := h
  exact ⟨m, Nat.lt_of_lt_of_le h1 (Below.size hb), (Below.cell hb (p := ⟨0, 0, none⟩) hE).trans h2⟩
theorem below_gb {w W : World} {b k : Nat} (h : w.grownBy W (some b)) (hk : k ≤ b) (hs : k ≤ w.heap.size) : Below k w W :=
  ⟨h.os, h.tape, h.output, h.size, fun i hi => h.block i (by omega) (by simp; omega)⟩
theorem below_gr {w W : World} {g : Option Nat} {k : Nat} (h : w.grownBy W g) (hk : ∀ j, g = some j → k ≤ j) (hs : k ≤ w.heap.size) : Below k w W :=
  ⟨h.os, h.tape, h.output, h.size, fun i hi => h.block i (by omega) (fun e => by have := hk i e.symm; omega)⟩

theorem own_shape {w : World} {base : Nat} {e : TypeId} {size n : Nat} {v : Value} {xs : List Value} (h : w.ownsRow base e size v (n + 1) xs) : ∃ g c, v = .slice (some ⟨g, 0, none⟩) (n + 1) c := by
  rcases h.2 with ⟨_, h0⟩ | ⟨g, cap, cur, rfl, _⟩
  · omega
  · exact ⟨g, cap, rfl⟩
/-- Block b and row g alone have turned; there may be more. -/
structure Fr2 (b : Nat) (g : Option Nat) (w w' : World) : Prop where
  os : w'.os = w.os
  tape : w'.tape = w.tape
  output : w'.output = w.output
  size : w.heap.size ≤ w'.heap.size
  block : ∀ k, k < w.heap.size → k ≠ b → some k ≠ g → w'.heap[k]? = w.heap[k]?
theorem Fr2.of_gb {b : Nat} {g : Option Nat} {w w' : World} (h : w.grownBy w' (some b)) : Fr2 b g w w' := ⟨h.os, h.tape, h.output, h.size, fun k hk h1 _ => h.block k hk (by simpa using h1)⟩
theorem Fr2.of_gr {b : Nat} {g : Option Nat} {w w' : World} (h : w.grownBy w' g) : Fr2 b g w w' := ⟨h.os, h.tape, h.output, h.size, fun k hk _ h2 => h.block k hk h2⟩
theorem Fr2.trans {b : Nat} {g : Option Nat} {x y z : World} (h : Fr2 b g x y) (k : Fr2 b g y z) : Fr2 b g x z :=
  ⟨k.os.trans h.os, k.tape.trans h.tape, k.output.trans h.output, Nat.le_trans h.size k.size, fun i hi h1 h2 => (k.block i (Nat.lt_of_lt_of_le hi h.size) h1 h2).trans (h.block i hi h1 h2)⟩
theorem Fr2.below {b : Nat} {g : Option Nat} {w w' : World} (h : Fr2 b g w w') (hg : ∀ j, g = some j → b < j) (hs : b ≤ w.heap.size) : Below b w w' :=
  ⟨h.os, h.tape, h.output, h.size, fun k hk => h.block k (by omega) (by omega) (fun e => by have := hg k e.symm; omega)⟩
theorem own_fr2 {w w' : World} {base : Nat} {e : TypeId} {size n : Nat} {v : Value} {xs : List Value} {b : Nat} {g : Option Nat} (h : w.ownsRow base e size v n xs) (hF : Fr2 b g w w') (hb : b < base) (hg : v.ownBlock = none ∨ v.ownBlock ≠ g) : w'.ownsRow base e size v n xs := by
  refine ⟨h.1, ?_⟩
  rcases h.2 with hn | ⟨k, cap, cur, rfl, hk, hkk, rest⟩
  · exact .inl hn
  · refine .inr ⟨k, cap, cur, rfl, hk, ?_, rest⟩
    rw [hF.block k (Array.getElem?_eq_some_iff.1 hkk).1 (by omega) (by simpa [Value.ownBlock] using hg)]
    exact hkk
/-- The reader with what has come out. -/
def RT (w : World) (b : Nat) (s t x : List UInt8) (l : List Tok) : Prop := ∃ v, Rr w b s t x v ∧ TkO w (b + 1) v l
set_option maxRecDepth 100000 in
set_option maxHeartbeats 2000000 in
theorem flush_c (b : Nat) (s t x : List UInt8) (l : List Tok) (v : Value) (w : World) (hR : Rr w b s t x v) (hT : TkO w (b + 1) v l) (hx : x.length ≤ 1073741824) (hl : l.length ≤ 1073741824) (hE : ES w) :
    Calls Tryz.prog 51 #[.pointer (some ⟨b, 0, none⟩)] w fun e w' => e = .returned (.tuple #[]) ∧ RT w' b s t [] (flsh x l) ∧ Fr2 b v.ownBlock w w' := by
  obtain ⟨i0, hi, hz0, hz1, hz2⟩ := info_parts Tryz.infoTok
  have hbw := hR.rk.lt
  obtain ⟨a0, a1, a2, a3, f0, f1, f2, f3⟩ := hR.rk.cells
  have TC := Lib.hid (fun W h => taken_c x (by omega) W h)
  by_cases h0 : (Tk x).1 = []
  · have HF := Lib.hid (show flsh x l = l by unfold flsh; rw [if_pos h0])
    rw [h0] at TC
    clear h0
    go_enter Tryz.func51, Tryz.ntmps51
    go_wp2_with (go_at_call 63; (with_reducible refine (TC.out _ hE).mono ?_); rintro e w1 ⟨rfl, hb1⟩; have hR1 := hR.of_bl hb1; clear a0 a1 a2 a3 f0 f1 f2 f3; obtain ⟨a0, a1, a2, a3, f0, f1, f2, f3⟩ := hR1.rk.cells)
    go_end0
    refine ⟨rfl, ⟨v, ⟨hR1.rk.set2 [], hR1.sf⟩, ?_⟩, ?_⟩
    · rw [HF.out]; exact (hT.of_bl hb1).of_gb (gb_set (gb_refl _ _) _ _) (Nat.lt_succ_self _)
    · exact Fr2.of_gb (gb_set (gb_bl hb1) _ _)
  · have HF := Lib.hid (show flsh x l = l ++ [(1, [], [], (Tk x).1)] by unfold flsh; rw [if_neg h0])
    obtain ⟨y, hy⟩ : ∃ y, y = (Tk x).1 := ⟨_, rfl⟩
    rw [← hy] at TC HF h0
    have hne : y.isEmpty = false := by cases y <;> simp_all
    clear hy h0
    go_enter Tryz.func51, Tryz.ntmps51
    go_wp2_with (first | (go_at_call 63; (with_reducible refine (TC.out _ hE).mono ?_); rintro e w1 ⟨rfl, hb1⟩; have hR1 := hR.of_bl hb1; have hT1 := hT.of_bl hb1; clear a0 a1 a2 a3 f0 f1 f2 f3; obtain ⟨a0, a1, a2, a3, f0, f1, f2, f3⟩ := hR1.rk.cells; obtain ⟨ents, e1, e2, e3⟩ := hT1; have hel : ents.length ≤ l.length := (by rw [← e1]; simp); have hs1 := Below.size hb1) | (at_builtin; refine wpList_append_own _ rfl _ _ 22 rfl (b + 1) 41 i0 (.agg #[.int .i64 0, .string ⟨#[]⟩, .slice none 0 0, .string ⟨#[]⟩]) 4 64 Tryz.underlying22 hi hz0 hz1 hz2 rfl (by decide) _ _ _ rfl (World.ownsRow.alloc e2 _) ⟨w1.heap.size, 0, none⟩ 1 1 [.int .i64 1, .string ⟨#[]⟩, .slice none 0 0, .string ⟨y.toArray⟩] rfl rfl (new_cells w1 #[.int .i64 1, .string ⟨#[]⟩, .slice none 0 0, .string ⟨y.toArray⟩] _) (by simp [Value.oneCell']) (by unfold maxLen; omega) (by omega) (by simp; omega) ?_))
    intro v' wz hown' hgrow _
    obtain ⟨gv, cv, rfl⟩ := own_shape hown'
    have m1 := tk_meet (t := (1, [], [], y)) (va := .slice none 0 0) e1 (World.ownsRow.alloc e2 _) (fun p hp => (e3 p hp).of_bl ((Bl.refl _).alloc _)) (AtO.nil _ _) hown' hgrow
    have hvb := World.ownsRow.lt e2
    have hRz : Rr wz b s t x v := ⟨(hR1.of_bl ((Bl.refl _).alloc _)).rk.of_gb hgrow (fun e => by have := (hvb b e.symm).1; omega), hR1.sf⟩
    have hBz : Fr2 b v.ownBlock w wz := (Fr2.of_gr (gb_bl (hb1.alloc _))).trans (Fr2.of_gr hgrow)
    clear hown' hgrow a0 a1 a2 a3 f0 f1 f2 f3
    obtain ⟨a0, a1, a2, a3, f0, f1, f2, f3⟩ := hRz.rk.cells
    go_wp2
    go_end0
    refine ⟨rfl, ⟨_, ⟨(hRz.rk.set3 _).set2 [], hRz.sf⟩, ?_⟩, ?_⟩
    · rw [HF.out]; exact (m1.of_gb (gb_set (gb_refl _ _) _ _) (Nat.lt_succ_self _)).of_gb (gb_set (gb_refl _ _) _ _) (Nat.lt_succ_self _)
    · exact hBz.trans (Fr2.of_gb (gb_set (gb_set (gb_refl _ _) _ _) _ _))
end Go.Proofs.YtjclpmpphkmpdaaGreatDoor

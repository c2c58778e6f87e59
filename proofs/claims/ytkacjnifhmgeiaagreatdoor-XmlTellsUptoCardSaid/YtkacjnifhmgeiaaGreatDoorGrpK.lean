/- Trees: slices.Clone of texts; check of the program. · Trees: check of the program. · Trees: the reference's joinText. -/
import Derived.Test.YtkacjnifhmgeiaaGreatDoorGrpJ
import Derived.Test.YtkacjnifhmgeiaaGreatDoorGrpI
import Derived.Test.YtkacjnifhmgeiaaGreatDoorTreR
import Derived.Deep.AppendLies
namespace Go.Proofs.YtkacjnifhmgeiaaGreatDoor
open Go.RowKit

theorem addr_at (g o j : Nat) : (⟨g, o, none⟩ : Addr).add j = ⟨g, o + j, none⟩ := by unfold Addr.add; split <;> simp_all
theorem strV_one (l : List Nm) : ∀ u ∈ strV l, u.oneCell' = true := by
  intro u hu
  obtain ⟨n, _, rfl⟩ := List.mem_map.1 hu
  rfl
theorem sts_news {w : World} {g o c : Nat} {l : List Nm} (h : StS w (.slice (some ⟨g, o, none⟩) l.length c) l) : ∀ j u, (strV l)[j]? = some u → w.cell? ((⟨g, o, none⟩ : Addr).add j) = some u := by
  intro j u hj
  obtain ⟨ao, cap, e, _, h⟩ := h
  cases e
  rw [addr_at]
  unfold strV at hj
  rw [List.getElem?_map] at hj
  cases e2 : l[j]? with
  | none => rw [e2] at hj; simp at hj
  | some n =>
    rw [e2] at hj
    obtain ⟨hjl, e3⟩ := List.getElem?_eq_some_iff.1 e2
    obtain ⟨g', o', e4, _, h3⟩ := h j hjl
    cases e4
    rw [h3, e3]
    simpa using hj
end Go.Proofs.YtkacjnifhmgeiaaGreatDoor

namespace Go.Proofs.YtkacjnifhmgeiaaGreatDoor
open Go.RowKit

/-- Is the node ahead of that place a text? -/
def pvT (l : List Nd) (k : Nat) : Bool := match k with | 0 => false | j + 1 => (l[j]?.map (fun d => decide (d.n = []))).getD false
theorem ckL_step (r : List Nm) (p : Bool) (d : Nd) (l : List Nd) : ckL r p (d :: l) = if ndE r d ≠ 0 then ndE r d else if p = true ∧ d.n = [] then 4 else if ckL (d.n :: r) false d.k ≠ 0 then ckL (d.n :: r) false d.k else ckL r (decide (d.n = [])) l := by
  cases d with
  | mk n a x k =>
    have hc : ckN r p (.mk n a x k) = if ndE r (.mk n a x k) ≠ 0 then ndE r (.mk n a x k) else if p = true ∧ n = [] then 4 else ckL (n :: r) false k := rfl
    have ho : ckL r p (.mk n a x k :: l) = if ckN r p (.mk n a x k) ≠ 0 then ckN r p (.mk n a x k) else ckL r (decide (n = [])) l := rfl
    rw [ho]
    show _ = if ndE r (.mk n a x k) ≠ 0 then ndE r (.mk n a x k) else if p = true ∧ n = [] then 4 else if ckL (n :: r) false k ≠ 0 then ckL (n :: r) false k else ckL r (decide (n = [])) l
    by_cases h1 : ndE r (.mk n a x k) = 0
    · rw [if_neg (fun h => h h1)] at hc
      rw [if_neg (show ¬ ndE r (.mk n a x k) ≠ 0 from fun h => h h1)]
      by_cases h2 : p = true ∧ n = []
      · rw [if_pos h2] at hc
        rw [if_pos h2, if_pos (by rw [hc]; decide), hc]
      · rw [if_neg h2] at hc
        rw [if_neg h2]
        by_cases h3 : ckL (n :: r) false k = 0
        · rw [if_neg (by rw [hc, h3]; simp), if_neg (fun h => h h3)]
        · rw [if_pos (by rw [hc]; exact h3), if_pos h3, hc]
    · rw [if_pos h1] at hc
      rw [if_pos (show ndE r (.mk n a x k) ≠ 0 from h1), if_pos (by rw [hc]; exact h1), hc]
theorem one_news {w : World} {g : Nat} {v : Value} (h : w.cell? ⟨g, 0, none⟩ = some v) : ∀ j u, [v][j]? = some u → w.cell? ((⟨g, 0, none⟩ : Addr).add j) = some u := by
  intro j u hj
  rw [addr_at, Nat.zero_add]
  cases j with
  | zero => simp only [List.getElem?_cons_zero, Option.some.injEq] at hj; subst hj; exact h
  | succ j => simp at hj
theorem own_baseT {w : World} {base base' : Nat} {e : TypeId} {size : Nat} {v : Value} {n : Nat} {xs : List Value} (h : w.ownsRow base e size v n xs) (hb : base' ≤ base) : w.ownsRow base' e size v n xs := ⟨h.1, h.2.imp id fun ⟨g, c, cur, h1, h2, h3⟩ => ⟨g, c, cur, h1, Nat.le_trans hb h2, h3⟩⟩
theorem own_sts' {w : World} {base : Nat} {v : Value} {l : List Nm} {n : Nat} (hn : n = l.length) (h : w.ownsRow base 9 1 v n (strV l)) : StS w v l := by subst hn; exact own_sts h
end Go.Proofs.YtkacjnifhmgeiaaGreatDoor

namespace Go.Proofs.YtkacjnifhmgeiaaGreatDoor
open Go.RowKit

theorem ndV_one (l : List Nent) (h : ∀ p ∈ l, p.2.1.oneCell' = true ∧ p.2.2.oneCell' = true) : ∀ u ∈ ndV l, u.oneCell' = true := by
  intro u hu
  simp only [ndV, List.mem_flatMap] at hu
  obtain ⟨p, hp, hu⟩ := hu
  simp only [List.mem_cons, List.not_mem_nil, or_false] at hu
  rcases hu with rfl | rfl | rfl | rfl
  · rfl
  · exact (h p hp).1
  · rfl
  · exact (h p hp).2
theorem NdO.ones {w : World} {base : Nat} {P : Nat → Prop} {v : Value} {l : List Nd} {ents : List Nent} (h : NdO w base P v l ents) : ∀ u ∈ ndV ents, u.oneCell' = true :=
  ndV_one ents fun p hp => by
    obtain ⟨⟨a, c, e, _⟩, ⟨a2, c2, e2, _⟩⟩ := h.all p hp
    rw [e, e2]; exact ⟨rfl, rfl⟩
theorem NdO.base_le {w : World} {base base' : Nat} {P : Nat → Prop} {v : Value} {l : List Nd} {ents : List Nent} (h : NdO w base P v l ents) (hb : base' ≤ base) : NdO w base' P v l ents := ⟨h.eq, own_baseT h.row hb, h.low, h.all⟩
/-- What is appended to own nodes: a node more. -/
theorem jt_more {W w6 wz : World} {base : Nat} {P : Nat → Prop} {v v' va vk : Value} {x : List Nd} {ents : List Nent} (d : Nd) (H : NdO W base P v x ents) (hP : ∀ k, P k → k < W.heap.size) (hbase : base ≤ W.heap.size) (hb : Bl W w6) (ha : AtP w6 P va d.a) (hk : NdS w6 P vk d.k)
    (hown : wz.ownsRow base 25 4 v' (ents.length + 1) (ndV ents ++ [.string ⟨d.n.toArray⟩, va, .string ⟨d.x.toArray⟩, vk])) (hg : Grew w6 wz v v') : NdO wz base P v' (x ++ [d]) (ents ++ [(d, va, vk)]) ∧ Below base W wz := by
  refine ⟨NdO.snoc d va vk (H.of_bl hb) (fun k hk => Nat.lt_of_lt_of_le (hP k hk) (Below.size hb)) ha hk hown hg, ?_⟩
  have h1 : Below base W w6 := Below.mono hb hbase
  refine h1.trans ?_
  have hs := Below.size hb
  rcases hg with ⟨_, hg⟩ | ⟨hg, _⟩
  · exact below_gr hg (fun j hj => (H.lt j hj).1) (by omega)
  · exact below_gr hg (fun j hj => by cases hj) (by omega)
/-- Own nodes have been copied into a row of their own. -/
theorem jt_copy {W w6 wz : World} {base : Nat} {P : Nat → Prop} {v u v' : Value} {x : List Nd} {ents : List Nent} (H : NdO W base P v x ents) (hP : ∀ k, P k → k < W.heap.size) (hb : Bl W w6) (hu : ∀ j, u.ownBlock = some j → W.heap.size ≤ j)
    (hown : wz.ownsRow W.heap.size 25 4 v' ents.length (ndV ents)) (hg : w6.grownBy wz u.ownBlock) : NdO wz W.heap.size P v' x ents ∧ Bl W wz := by
  have hbz : Bl W wz := Below.trans hb (bel_gr hg hu (Below.size hb))
  refine ⟨⟨H.eq, hown, fun k hk hp => ?_, fun p hp => ⟨(H.all p hp).1.still (Still.of_bl hbz), (H.all p hp).2.of_bl hbz⟩⟩, hbz⟩
  have := (World.ownsRow.lt hown k hk).1
  have := hP k hp
  omega
set_option maxRecDepth 100000 in
set_option maxHeartbeats 4000000 in
theorem joinText_c (base : Nat) (P : Nat → Prop) (x : List Nd) (ents : List Nent) (v : Value) (t : List UInt8) (w : World) (H : NdO w base P v x ents) (hP : ∀ k, P k → k < w.heap.size) (hbase : base ≤ w.heap.size) (hx : x.length ≤ 10000000) (ht : t.length ≤ 100000000)
    (hlast : ∀ c ∈ x, c.x.length ≤ 100000000) :
    Calls Tryz.prog 68 #[v, .agg #[.string ⟨#[]⟩, .slice none 0 0, .string ⟨t.toArray⟩, .slice none 0 0]] w fun e w' => ∃ v' ents', e = .returned v' ∧ NdO w' base P v' (pt x (.mk [] [] t [])) ents' ∧ Below base w w' := by
  obtain ⟨i0, hi, hz0, hz1, hz2⟩ := info_parts Tryz.infoNod
  obtain ⟨ax, cx, hv, hxc⟩ := own_shp H.row
  have hel := H.len
  rcases List.eq_nil_or_concat x with rfl | ⟨o, c, hxe⟩
  · have h0 : ents = [] := List.eq_nil_of_length_eq_zero (by simpa using hel)
    subst h0
    subst hv
    have HH := Lib.hid H
    clear H
    go_enter Tryz.func68, Tryz.ntmps68
    go_wp2_with (at_builtin; refine Hid.out ?_)
    refine Lib.hid ?_
    refine wpList_append_gr _ rfl _ _ 23 rfl base 25 i0 (.agg #[.string ⟨#[]⟩, .slice none 0 0, .string ⟨#[]⟩, .slice none 0 0]) 4 80 Tryz.underlying23 hi hz0 hz1 hz2 rfl (by decide) (.slice ax 0 cx) 0 (ndV []) rfl (own_bl HH.out.row (by repeat (first | exact Bl.refl _ | refine Bl.drew ?_ | refine Bl.alloc ?_ _))) ⟨w.heap.size + 1, 0, none⟩ 1 1 [.string ⟨#[]⟩, .slice none 0 0, .string ⟨t.toArray⟩, .slice none 0 0] rfl rfl (new_cells2 w _ #[.string ⟨#[]⟩, .slice none 0 0, .string ⟨t.toArray⟩, .slice none 0 0] _) (by simp [Value.oneCell']) (by decide) (by unfold maxLen; omega) (by omega) (by simp; omega) ?_
    intro v' wz hown hg
    obtain ⟨h1, h2⟩ := jt_more (.mk [] [] t []) HH.out hP hbase (by repeat (first | exact Bl.refl _ | refine Bl.drew ?_ | refine Bl.alloc ?_ _)) (AtP.nil _ _) (NdS.nil _ _) hown hg
    clear hown hg
    go_wp2
    go_ret
    exact ⟨_, _, rfl, h1, h2⟩
  · rw [List.concat_eq_append] at hxe
    have hX1 : (0 : Int) < (x.length : Int) := by rw [hxe]; simp <;> omega
    rw [hel] at hv hxc
    subst hv
    obtain ⟨gx, rfl, x0, x1, x2, x3⟩ := H.lastc o c hxe
    have hi1 : (x.length : Int) - 1 = (o.length : Int) := by rw [hxe]; simp
    have hi2 : (o.length : Int) < (x.length : Int) := by omega
    have hcx := hlast c (by rw [hxe]; simp)
    have HH := Lib.hid H
    have HXE := Lib.hid hxe
    have HEL := Lib.hid hel
    by_cases hn : c.n = []
    · have hpt := Lib.hid (show pt x (.mk [] [] t []) = o ++ [.mk c.n c.a (c.x ++ t) c.k] by
        rw [hxe]; unfold pt; cases c with | mk n a y k => simp only [Nd.n] at hn; subst hn; simp [Nd.n, Nd.a, Nd.x, Nd.k])
      have hne : c.n.isEmpty = true := by simp [hn]
      clear H hxe hel hn
      go_enter Tryz.func68, Tryz.ntmps68
      go_wp2_with (at_builtin; refine Hid.out ?_)
      refine Lib.hid ?_
      refine wpList_append_row _ rfl _ _ 23 rfl w.heap.size base 25 i0 (.agg #[.string ⟨#[]⟩, .slice none 0 0, .string ⟨#[]⟩, .slice none 0 0]) 4 80 Tryz.underlying23 hi hz0 hz1 hz2 rfl (by decide) (.slice (some ⟨w.heap.size + 1, 0, none⟩) 0 0) 0 [] rfl (by have := World.ownsRow_made (base := w.heap.size) (e := 25) (size := 4) (w.alloc (.cells #[.string ⟨#[]⟩, .slice none 0 0, .string ⟨t.toArray⟩, .slice none 0 0] 25)) #[] 0 (by simp) (by decide) rfl; simpa using this) (.slice (some ⟨gx, 0, none⟩) x.length cx) ents.length (ndV ents) rfl (own_bl (by have := HH.out.row; rw [HEL.out] at this ⊢; exact this) (by repeat (first | exact Bl.refl _ | refine Bl.drew ?_ | refine Bl.alloc ?_ _))) HH.out.ones (by rw [HEL.out]; unfold maxLen; omega) (by rw [HEL.out]; omega) (by simp; omega) ?_
      intro v' wz hown hg
      have b2 : wz.cell? ⟨w.heap.size, 2, none⟩ = some (.string ⟨t.toArray⟩) := (hg.cell_far ⟨w.heap.size, 2, none⟩ (by simp <;> omega) (by simp [Value.ownBlock])).trans (by simp)
      obtain ⟨hN, hbz⟩ := jt_copy HH.out hP (by repeat (first | exact Bl.refl _ | refine Bl.drew ?_ | refine Bl.alloc ?_ _)) (fun j hj => by simp only [Value.ownBlock, Option.some.injEq] at hj; omega) (by simpa using hown) hg
      have hsz := Below.size hbz
      have hwz : w.heap.size < wz.heap.size := by have := hg.size; simp at this; omega
      clear hown hg
      obtain ⟨az, cz, rfl, -⟩ := own_shp hN.row
      obtain ⟨gz, rfl, e0, e1, e2, e3⟩ := hN.lastc o c HXE.out
      have hgz := (hN.lt gz rfl).1
      have hel2 := HEL.out
      obtain ⟨ents', hf⟩ := NdO.settext (l := o) (d := c) (by have h9 := hN; rw [HXE.out] at h9; exact h9) (c.x ++ t)
      have HF := Lib.hid hf
      have HB := Lib.hid (Below.mono (show Bl w (wz.setCell ⟨gz, o.length * 4 + 2, none⟩ (.string ⟨(c.x ++ t).toArray⟩)) from Below.setCell hbz hgz _) hbase)
      clear hf hN hbz
      rw [hel2]
      go_wp2
      have hw1 : IntKind.i64.wrap (o.length : Int) = (o.length : Int) := by go_arith
      have hw2 : IntKind.i64.wrap ((x.length : Int) - 1) = (o.length : Int) := by go_arith
      have hi3 : (0 : Int) ≤ (o.length : Int) := by omega
      go_region
      all_goals
        go_wp2
        go_ret
        exact ⟨_, ents', rfl, by rw [hpt.out]; have h8 := HF.out.base_le hbase; rw [hel2] at h8; exact h8.of_bl (by repeat (first | exact Bl.refl _ | refine Bl.drewN ?_ _ | refine Bl.drew ?_)), by repeat (first | exact HB.out | refine Below.drew ?_)⟩
    · have hpt := Lib.hid (show pt x (.mk [] [] t []) = x ++ [.mk [] [] t []] by
        rw [hxe]; unfold pt; cases c with | mk n a y k => cases n with | nil => exact absurd rfl hn | cons u n => simp)
      have hne : c.n.isEmpty = false := by cases e : c.n <;> simp_all
      clear H hxe hel hn
      go_enter Tryz.func68, Tryz.ntmps68
      go_wp2_with (at_builtin; refine Hid.out ?_)
      refine Lib.hid ?_
      refine wpList_append_gr _ rfl _ _ 23 rfl base 25 i0 (.agg #[.string ⟨#[]⟩, .slice none 0 0, .string ⟨#[]⟩, .slice none 0 0]) 4 80 Tryz.underlying23 hi hz0 hz1 hz2 rfl (by decide) (.slice (some ⟨gx, 0, none⟩) x.length cx) ents.length (ndV ents) rfl (own_bl (by have := HH.out.row; rw [HEL.out] at this ⊢; exact this) (by repeat (first | exact Bl.refl _ | refine Bl.drew ?_ | refine Bl.alloc ?_ _))) ⟨w.heap.size + 1, 0, none⟩ 1 1 [.string ⟨#[]⟩, .slice none 0 0, .string ⟨t.toArray⟩, .slice none 0 0] rfl rfl (new_cells2 w _ #[.string ⟨#[]⟩, .slice none 0 0, .string ⟨t.toArray⟩, .slice none 0 0] _) (by simp [Value.oneCell']) (by decide) (by rw [HEL.out]; unfold maxLen; omega) (by rw [HEL.out]; omega) (by simp; omega) ?_
      intro v' wz hown hg
      obtain ⟨h1, h2⟩ := jt_more (.mk [] [] t []) HH.out hP hbase (by repeat (first | exact Bl.refl _ | refine Bl.drew ?_ | refine Bl.alloc ?_ _)) (AtP.nil _ _) (NdS.nil _ _) hown hg
      clear hown hg
      go_wp2
      go_ret
      exact ⟨_, _, rfl, by rw [hpt.out]; exact h1, h2⟩
end Go.Proofs.YtkacjnifhmgeiaaGreatDoor

/- Shelves: rows of entries; slices.Clone; a keeper's own shelf. -/
import Derived.Test.YthnpljkekhieiaaGreatDoorGrpQ
import Derived.Test.YthnpljkekhieiaaGreatDoorGrpO
namespace Go.Proofs.YthnpljkekhieiaaGreatDoor
open Go.RowKit

/-- The cells of an entry. -/
def enQ (x : Ent) : List Value := [.string ⟨(eI x).toArray⟩, .string ⟨(eT x).toArray⟩, .string ⟨(eL x).toArray⟩, .int .i64 (eA x), .string ⟨(eH x).toArray⟩]
def enW (l : List Ent) : List Value := l.flatMap enQ
theorem enW_cons (x : Ent) (l : List Ent) : enW (x :: l) = enQ x ++ enW l := by simp [enW]
theorem enW_app (l m : List Ent) : enW (l ++ m) = enW l ++ enW m := by simp [enW]
theorem enQ_len (x : Ent) : (enQ x).length = 5 := rfl
theorem enW_len (l : List Ent) : (enW l).length = l.length * 5 := by
  induction l with
  | nil => rfl
  | cons x l ih => rw [enW_cons, List.length_append, ih, enQ_len, List.length_cons]; omega
theorem enW_at : ∀ (l : List Ent) (i c : Nat) (hi : i < l.length), c < 5 → (enW l)[i * 5 + c]? = (enQ l[i])[c]? := by
  intro l
  induction l with
  | nil => intro i c hi; simp at hi
  | cons x l ih =>
    intro i c hi hc
    rw [enW_cons]
    cases i with
    | zero => rw [List.getElem?_append_left (by rw [enQ_len]; omega)]; simp
    | succ i =>
      rw [List.getElem?_append_right (by rw [enQ_len]; omega), enQ_len, show (i + 1) * 5 + c - 5 = i * 5 + c by omega]
      exact ih i c (by simpa using hi) hc
theorem enW_idx {l : List Ent} {j : Nat} {u : Value} (h : (enW l)[j]? = some u) : ∃ i c, ∃ hi : i < l.length, c < 5 ∧ j = i * 5 + c ∧ (enQ l[i])[c]? = some u := by
  have hj : j < (enW l).length := (List.getElem?_eq_some_iff.1 h).1
  rw [enW_len] at hj
  have hi : j / 5 < l.length := by omega
  refine ⟨j / 5, j % 5, hi, by omega, by omega, ?_⟩
  rw [← enW_at l (j / 5) (j % 5) hi (by omega), show j / 5 * 5 + j % 5 = j by omega]
  exact h
theorem enQ_one (x : Ent) : ∀ u ∈ enQ x, u.oneCell' = true := by
  intro u hu
  unfold enQ at hu
  simp only [List.mem_cons, List.not_mem_nil, or_false] at hu
  rcases hu with rfl | rfl | rfl | rfl | rfl <;> rfl
theorem enW_one (l : List Ent) : ∀ u ∈ enW l, u.oneCell' = true := by
  intro u hu
  obtain ⟨x, _, h⟩ := List.mem_flatMap.1 hu
  exact enQ_one x u h
theorem EnS.cells {w : World} {g o n c : Nat} {l : List Ent} (h : EnS w (.slice (some ⟨g, o, none⟩) n c) l) : ∀ j u, (enW l)[j]? = some u → w.cell? ⟨g, o + j, none⟩ = some u := by
  intro j u hj
  obtain ⟨ao, cap, e, _, h⟩ := h
  cases e
  obtain ⟨i, c', hi, hc, rfl, hu⟩ := enW_idx hj
  obtain ⟨g', o', e, _, h3, h4, h5, h6, h7⟩ := h i hi
  cases e
  match c', hc, hu with
  | 0, _, hu => rw [← show some _ = some u from hu]; exact h3
  | 1, _, hu => rw [← show some _ = some u from hu, ← Nat.add_assoc]; exact h4
  | 2, _, hu => rw [← show some _ = some u from hu, ← Nat.add_assoc]; exact h5
  | 3, _, hu => rw [← show some _ = some u from hu, ← Nat.add_assoc]; exact h6
  | 4, _, hu => rw [← show some _ = some u from hu, ← Nat.add_assoc]; exact h7
theorem ens_news {w : World} {g o c : Nat} {l : List Ent} (h : EnS w (.slice (some ⟨g, o, none⟩) l.length c) l) : ∀ j u, (enW l)[j]? = some u → w.cell? ((⟨g, o, none⟩ : Addr).add j) = some u := by
  intro j u hj
  rw [addr_at]
  exact h.cells j u hj
theorem EnS.of_cells {w : World} {g o n c : Nat} {l : List Ent} (hn : n = l.length) (hc : n ≤ c) (hg : g < w.heap.size) (h : ∀ j u, (enW l)[j]? = some u → w.cell? ⟨g, o + j, none⟩ = some u) : EnS w (.slice (some ⟨g, o, none⟩) n c) l := by
  subst hn
  refine ⟨_, _, rfl, hc, fun i hi => ⟨g, o, rfl, hg, ?_, ?_, ?_, ?_, ?_⟩⟩
  · exact h (i * 5) _ (enW_at l i 0 hi (by omega))
  · rw [Nat.add_assoc]; exact h (i * 5 + 1) _ (enW_at l i 1 hi (by omega))
  · rw [Nat.add_assoc]; exact h (i * 5 + 2) _ (enW_at l i 2 hi (by omega))
  · rw [Nat.add_assoc]; exact h (i * 5 + 3) _ (enW_at l i 3 hi (by omega))
  · rw [Nat.add_assoc]; exact h (i * 5 + 4) _ (enW_at l i 4 hi (by omega))
/-- A row of the call's own that holds these entries. -/
def EnO (w : World) (base : Nat) (v : Value) (l : List Ent) : Prop := w.ownsRow base 36 5 v l.length (enW l)
def StO (w : World) (base : Nat) (v : Value) (l : List Nm) : Prop := w.ownsRow base 9 1 v l.length (strV l)
theorem EnO.ens {w : World} {base : Nat} {v : Value} {l : List Ent} (h : EnO w base v l) : EnS w v l := by
  rcases h.2 with ⟨rfl, h0⟩ | ⟨g, cap, cur, rfl, hb, hg, hnc, rest⟩
  · obtain rfl := List.eq_nil_of_length_eq_zero h0
    exact EnS.nil w
  · have hlt : g < w.heap.size := (Array.getElem?_eq_some_iff.1 hg).1
    refine EnS.of_cells rfl hnc hlt (fun j u hj => ?_)
    have := World.ownsRow.cells h (g := g) rfl j u hj
    rw [addr_at] at this
    exact this
theorem strV_at (l : List Nm) (i : Nat) (hi : i < l.length) : (strV l)[i]? = some (.string ⟨l[i].toArray⟩) := by unfold strV; simp [hi]
theorem strV_len (l : List Nm) : (strV l).length = l.length := by unfold strV; simp
theorem StO.sts {w : World} {base : Nat} {v : Value} {l : List Nm} (h : StO w base v l) : StS w v l := by
  rcases h.2 with ⟨rfl, h0⟩ | ⟨g, cap, cur, rfl, hb, hg, hnc, rest⟩
  · obtain rfl := List.eq_nil_of_length_eq_zero h0
    exact ⟨none, 0, rfl, Nat.le_refl _, fun i hi => absurd hi (by simp)⟩
  · have hlt : g < w.heap.size := (Array.getElem?_eq_some_iff.1 hg).1
    refine ⟨_, _, rfl, hnc, fun i hi => ⟨g, 0, rfl, hlt, ?_⟩⟩
    have := World.ownsRow.cells h (g := g) rfl i _ (strV_at l i hi)
    rw [addr_at] at this
    exact this
theorem EnO.of_bl {w w' : World} {base : Nat} {v : Value} {l : List Ent} (h : EnO w base v l) (hb : Bl w w') : EnO w' base v l := own_bl h hb
theorem StO.of_bl {w w' : World} {base : Nat} {v : Value} {l : List Nm} (h : StO w base v l) (hb : Bl w w') : StO w' base v l := own_bl h hb
theorem Tryz.infoEnt : (Tryz.prog.info? 36).map (fun i => (i.zero, i.size, i.bytes)) = some (some (.agg #[.string ⟨#[]⟩, .string ⟨#[]⟩, .string ⟨#[]⟩, .int .i64 0, .string ⟨#[]⟩]), 5, 72) := by kernel_rfl
set_option maxHeartbeats 1000000 in
theorem cloneE_c (l : List Ent) (v : Value) (hl : l.length ≤ 100000000) (w : World) (hA : EnS w v l) :
    Calls Tryz.prog 43 #[v] w fun e w' => ∃ v', e = .returned v' ∧ EnO w' w.heap.size v' l ∧ Bl w w' := by
  unfold EnO
  obtain ⟨i0, hi, hz0, hz1, hz2⟩ := info_parts Tryz.infoEnt
  have hA' := hA
  obtain ⟨ao, cap, rfl, hcap, hA⟩ := hA
  have hnil := fun (W : World) (a : Option Addr) (n c : Nat) => Lib.run_eql_slice_nil (P := Tryz.prog) W 22 36 a n c 0 0 Tryz.underlying22
  cases ao with
  | none =>
    have h0 : l = [] := by
      rcases l with _ | ⟨a, l⟩
      · rfl
      · obtain ⟨g, o, e, _⟩ := hA 0 (by simp); cases e
    subst h0
    clear hA hA'
    go_enter Tryz.func43, Tryz.ntmps43
    go_wp2
    go_ret
    exact ⟨_, rfl, World.ownsRow_nil _ _ _ _, Bl.refl _⟩
  | some a =>
    by_cases h0 : l = []
    · subst h0
      clear hA hA'
      go_enter Tryz.func43, Tryz.ntmps43
      go_wp2
      go_ret
      exact ⟨_, rfl, World.ownsRow_made (base := w.heap.size) (e := 36) (size := 5) w #[] 0 (Nat.le_refl _) (by decide) rfl, (Bl.refl _).alloc _⟩
    · have hpos := List.length_pos_iff.2 h0
      obtain ⟨g, o, e, _⟩ := hA 0 hpos
      cases e
      have HN := Lib.hid hA'
      clear hA hA' h0
      go_enter Tryz.func43, Tryz.ntmps43
      go_wp2_with (at_builtin; refine wpList_append_own _ rfl _ _ 22 rfl w.heap.size 36 i0 (.agg #[.string ⟨#[]⟩, .string ⟨#[]⟩, .string ⟨#[]⟩, .int .i64 0, .string ⟨#[]⟩]) 5 72 Tryz.underlying22 hi hz0 hz1 hz2 rfl (by decide) (.slice (some ⟨w.heap.size, 0, none⟩) 0 0) 0 [] rfl (World.ownsRow_made (base := w.heap.size) (e := 36) (size := 5) w #[] 0 (Nat.le_refl _) (by decide) rfl) ⟨g, o, none⟩ l.length cap (enW l) rfl (enW_len l) (ens_news (HN.out.of_bl ((Bl.refl _).alloc _))) (enW_one l) (by unfold maxLen; omega) (by omega) (by simp) ?_)
      intro v' wz hown' hgrow _
      have hbz : Bl w wz := Below.trans ((Bl.refl w).alloc _) (bel_gr hgrow (fun j hj => by simp only [Value.ownBlock, Option.some.injEq] at hj; omega) (by simp))
      have HO := Lib.hid hown'
      obtain ⟨ao, c, rfl, -⟩ := own_shp hown'
      clear hgrow hown'
      go_wp2
      go_ret
      exact ⟨_, rfl, by have := HO.out; simpa using this, hbz⟩
/-- A keeper: its block, its own entries, its own ids. -/
def KpS (w : World) (base b : Nat) (es : List Ent) (rd : List Nm) : Prop :=
  ∃ ve vr, w.heap[b]? = some (.cells #[ve, vr] 57) ∧ base ≤ b ∧ EnO w base ve es ∧ StO w base vr rd
theorem own_up {w : World} {base base' : Nat} {e : TypeId} {size n : Nat} {v : Value} {xs : List Value} (h : w.ownsRow base e size v n xs) (hb : base' ≤ base) : w.ownsRow base' e size v n xs := own_base h hb
set_option maxHeartbeats 2000000 in
theorem own_c (s : Shf) (v : Value) (h1 : s.1.length ≤ 100000000) (h2 : s.2.length ≤ 100000000) (w : World) (hS : ShS w v s) :
    Calls Tryz.prog 24 #[v] w fun e w' => ∃ b, e = .returned (.pointer (some ⟨b, 0, none⟩)) ∧ KpS w' w.heap.size b s.1 s.2 ∧ Bl w w' := by
  obtain ⟨ve, vr, rfl, hEn, hRd⟩ := hS
  have CE := Lib.hid (fun W (hb : Bl w W) => cloneE_c s.1 ve h1 W (hEn.of_bl hb))
  have CS := Lib.hid (fun W (hb : Bl w W) => cloneS_c s.2 vr h2 W (hRd.of_bl hb))
  obtain ⟨ao, cap, rfl, -⟩ := hEn
  obtain ⟨ar, cr, rfl, -⟩ := hRd
  have hB0 := B2.new w (.slice ao s.1.length cap) (.slice ar s.2.length cr) 25
  go_enter Tryz.func24, Tryz.ntmps24
  go_wp2
  go_region_with (first | (go_at_call 43; (refine (CE.out _ (by repeat (first | exact Bl.refl _ | refine Bl.drew ?_ | refine Bl.drewN ?_ _ | refine Bl.alloc ?_ _))).mono ?_); rintro e w1 ⟨v1, rfl, hO1, hb1⟩; have hW1 : Bl w w1 := Bl.trans (by repeat (first | exact Bl.refl _ | refine Bl.drew ?_ | refine Bl.drewN ?_ _ | refine Bl.alloc ?_ _)) hb1; obtain ⟨l1, x1, y1⟩ := B2.of_bl (hB0.of_bl (by repeat (first | exact Bl.refl _ | refine Bl.drew ?_ | refine Bl.drewN ?_ _ | refine Bl.alloc ?_ _))) hb1; obtain ⟨ao1, c1, rfl, -⟩ := own_shp hO1) | (go_at_call 44; (refine (CS.out _ (Bl.trans hW1 (by repeat (first | exact Bl.refl _ | refine Bl.drew ?_ | refine Bl.drewN ?_ _ | refine Bl.alloc ?_ _)))).mono ?_); rintro e w2 ⟨v2, rfl, hO2, hb2⟩; obtain ⟨ao2, c2, rfl, -⟩ := own_shp hO2))
  all_goals
    go_wp2
    go_ret
    refine ⟨_, rfl, ⟨_, _, heap_alloc_new _ _, ?_, own_up (own_bl (own_bl hO1 hb2) (by repeat (first | exact Bl.refl _ | refine Bl.drew ?_ | refine Bl.drewN ?_ _ | refine Bl.alloc ?_ _))) ?_, own_up (own_bl hO2 (by repeat (first | exact Bl.refl _ | refine Bl.drew ?_ | refine Bl.drewN ?_ _ | refine Bl.alloc ?_ _))) ?_⟩, ?_⟩
    · have h1 := Below.size hW1
      have h2 := Below.size hb2
      simp at h2 ⊢
      omega
    · simp
    · have h1 := Below.size hW1
      simp
      exact h1
    · exact Bl.trans (Bl.trans (Bl.trans hW1 (by repeat (first | exact Bl.refl _ | refine Bl.drew ?_ | refine Bl.drewN ?_ _ | refine Bl.alloc ?_ _))) hb2) (by repeat (first | exact Bl.refl _ | refine Bl.drew ?_ | refine Bl.drewN ?_ _ | refine Bl.alloc ?_ _))
end Go.Proofs.YthnpljkekhieiaaGreatDoor

/- Shelves: slices.DeleteFunc of entries. · Shelves: Drop. -/
import Derived.Test.YthnpljkekhieiaaGreatDoorShAb
namespace Go.Proofs.YthnpljkekhieiaaGreatDoor
open Go.RowKit

theorem ixB_cases (b : Nat → Bool) (n : Nat) : (ixB b n = -1 ∧ ∀ j, j < n → b j = false) ∨ ∃ k, k < n ∧ ixB b n = k ∧ b k = true ∧ ∀ j, j < k → b j = false := by
  unfold ixB
  cases h : (List.range n).find? b with
  | none => exact .inl ⟨rfl, fun j hj => by simpa using List.find?_eq_none.1 h j (List.mem_range.2 hj)⟩
  | some k =>
    rw [List.find?_range_eq_some] at h
    exact .inr ⟨k, List.mem_range.1 h.2.1, rfl, h.1, fun j hj => by simpa using h.2.2 j hj⟩
def flt (P : Ent → Bool) (l : List Ent) (k : Nat) : List Ent := (l.take k).filter fun x => !P x
theorem flt_next (P : Ent → Bool) (l : List Ent) (k : Nat) (h : k < l.length) : flt P l (k + 1) = flt P l k ++ if P l[k] then [] else [l[k]] := by
  unfold flt
  rw [take_snoc l k h, List.filter_append]
  congr 1
  cases hc : P l[k] <;> simp only [List.filter_cons, List.filter_nil, hc] <;> rfl
theorem flt_all (P : Ent → Bool) (l : List Ent) : flt P l l.length = l.filter fun x => !P x := by unfold flt; rw [List.take_length]
theorem flt_none {P : Ent → Bool} {l : List Ent} {k : Nat} (h : ∀ j (hj : j < l.length), j < k → P l[j] = false) : flt P l k = l.take k := by
  unfold flt
  refine List.filter_eq_self.2 (fun x hx => ?_)
  obtain ⟨j, hj, rfl⟩ := List.getElem_of_mem hx
  have h2 := hj
  rw [List.length_take] at h2
  rw [List.getElem_take, h j (by omega) (by omega)]
  rfl
theorem set5 (W : World) (g o : Nat) (x : Ent) : ((((W.setCell ⟨g, o, none⟩ (.string ⟨(eI x).toArray⟩)).setCell ⟨g, o + 1, none⟩ (.string ⟨(eT x).toArray⟩)).setCell ⟨g, o + 2, none⟩ (.string ⟨(eL x).toArray⟩)).setCell ⟨g, o + 3, none⟩ (.int .i64 (eA x))).setCell ⟨g, o + 4, none⟩ (.string ⟨(eH x).toArray⟩) = W.setCells g o (enQ x) := rfl
/-- The row while entries go: what stays of the first k ones, and the rest as it was. -/
def Mid (w : World) (g cap : Nat) (P : Ent → Bool) (l : List Ent) (k : Nat) : Prop :=
  ∃ cur, w.heap[g]? = some (.cells cur 36 (0, 0)) ∧ cur.size = cap * 5 ∧ (∀ j, j < (flt P l k).length * 5 → cur[j]? = (enW (flt P l k))[j]?) ∧ ∀ j, k * 5 ≤ j → j < l.length * 5 → cur[j]? = (enW l)[j]?
theorem Mid.of_bl {w W : World} {g cap : Nat} {P : Ent → Bool} {l : List Ent} {k : Nat} (h : Mid w g cap P l k) (hb : Bl w W) : Mid W g cap P l k := by
  obtain ⟨cur, h1, h2⟩ := h
  exact ⟨cur, keep_bl h1 hb, h2⟩
theorem Mid.skip {w : World} {g cap : Nat} {P : Ent → Bool} {l : List Ent} {k : Nat} (h : Mid w g cap P l k) (hk : k < l.length) (hp : P l[k] = true) : Mid w g cap P l (k + 1) := by
  obtain ⟨cur, h1, h2, h3, h4⟩ := h
  have e : flt P l (k + 1) = flt P l k := by rw [flt_next P l k hk, hp]; simp
  exact ⟨cur, h1, h2, by rw [e]; exact h3, fun j a b => h4 j (by omega) b⟩
theorem Mid.keep {w : World} {g cap : Nat} {P : Ent → Bool} {l : List Ent} {k : Nat} (h : Mid w g cap P l k) (hk : k < l.length) (hp : P l[k] = false) (hm : (flt P l k).length < k) (hc : l.length ≤ cap) : Mid (w.setCells g ((flt P l k).length * 5) (enQ l[k])) g cap P l (k + 1) := by
  obtain ⟨cur, h1, h2, h3, h4⟩ := h
  obtain ⟨cur', e1, e2, e3⟩ := setCells_hp g _ _ (enQ l[k]) ((flt P l k).length * 5) w cur h1
  have e : flt P l (k + 1) = flt P l k ++ [l[k]] := by rw [flt_next P l k hk, hp]; rfl
  have hq : (enQ l[k]).length = 5 := rfl
  refine ⟨cur', e1, by rw [e2, h2], fun j hj => ?_, fun j a b => ?_⟩
  · rw [e, List.length_append, List.length_singleton] at hj
    have hx : enW (flt P l k ++ [l[k]]) = enW (flt P l k) ++ enQ l[k] := by rw [enW_app]; simp [enW]
    rw [e, hx, e3 j, hq]
    by_cases c : j < (flt P l k).length * 5
    · rw [if_neg (by omega), List.getElem?_append_left (by rw [enW_len]; exact c), h3 j c]
    · rw [if_pos ⟨by omega, by omega, by omega⟩, List.getElem?_append_right (by rw [enW_len]; omega), enW_len]
  · rw [e3 j, hq, if_neg (by omega), h4 j (by omega) b]
theorem Mid.cells {w : World} {g cap : Nat} {P : Ent → Bool} {l : List Ent} {k : Nat} (h : Mid w g cap P l k) (hk : k < l.length) : w.cell? ⟨g, k * 5, none⟩ = some (.string ⟨(eI l[k]).toArray⟩) ∧ w.cell? ⟨g, k * 5 + 1, none⟩ = some (.string ⟨(eT l[k]).toArray⟩) ∧
    w.cell? ⟨g, k * 5 + 2, none⟩ = some (.string ⟨(eL l[k]).toArray⟩) ∧ w.cell? ⟨g, k * 5 + 3, none⟩ = some (.int .i64 (eA l[k])) ∧ w.cell? ⟨g, k * 5 + 4, none⟩ = some (.string ⟨(eH l[k]).toArray⟩) := by
  obtain ⟨cur, h1, h2, h3, h4⟩ := h
  refine ⟨?_, ?_, ?_, ?_, ?_⟩
  · rw [cell_of_row h1, h4 _ (by omega) (by omega)]; exact enW_at l k 0 hk (by omega)
  · rw [cell_of_row h1, h4 _ (by omega) (by omega)]; exact enW_at l k 1 hk (by omega)
  · rw [cell_of_row h1, h4 _ (by omega) (by omega)]; exact enW_at l k 2 hk (by omega)
  · rw [cell_of_row h1, h4 _ (by omega) (by omega)]; exact enW_at l k 3 hk (by omega)
  · rw [cell_of_row h1, h4 _ (by omega) (by omega)]; exact enW_at l k 4 hk (by omega)
theorem Mid.spare {w : World} {g cap : Nat} {P : Ent → Bool} {l : List Ent} {k : Nat} (h : Mid w g cap P l k) (j : Nat) (hj : j < cap * 5) : (∃ u, w.cell? ⟨g, j, none⟩ = some u) ∧ w.frozen? ⟨g, j, none⟩ = false := by
  obtain ⟨cur, h1, h2, h3, h4⟩ := h
  exact ⟨⟨cur[j]'(by omega), by rw [cell_of_row h1, Array.getElem?_eq_getElem (by omega)]⟩, frozen_of_row h1⟩
theorem Mid.lt {w : World} {g cap : Nat} {P : Ent → Bool} {l : List Ent} {k : Nat} (h : Mid w g cap P l k) : g < w.heap.size := by
  obtain ⟨cur, h1, -⟩ := h
  exact (Array.getElem?_eq_some_iff.1 h1).1
set_option maxRecDepth 100000 in
set_option maxHeartbeats 4000000 in
theorem delF_c (N : Nat) (pv : Value) (hcf : ∀ (args : Array Value) (W : World), Sem.run Tryz.prog (callFunc N args) W = .ok (.enter N args) W) (base : Nat) (l : List Ent) (v : Value) (P : Ent → Bool) (hl : l.length ≤ 1000000) (w : World) (hO : EnO w base v l)
    (hgo : ∀ x ∈ l, ∀ W, w.grownBy W v.ownBlock → Calls Tryz.prog N #[pv, enV x] W fun e w' => e = .returned (.bool (P x)) ∧ Bl W w') :
    Calls Tryz.prog 30 #[v, .func (.func N) #[pv] #[]] w fun e w' => ∃ v', e = .returned v' ∧ EnO w' base v' (l.filter fun x => !P x) ∧ w.grownBy w' v.ownBlock := by
  have hEn := hO.ens
  have HO := Lib.hid hO
  have HGO := Lib.hid hgo
  obtain ⟨ao, cap, rfl, hcap, hA⟩ := hEn
  have IC0 := fun (W : World) (hW : Bl w W) => indexF_M N pv hcf l.length cap ao (fun i => .string ⟨(eI (l.getD i zE)).toArray⟩) (fun i => .string ⟨(eT (l.getD i zE)).toArray⟩) (fun i => .string ⟨(eL (l.getD i zE)).toArray⟩) (fun i => .int .i64 (eA (l.getD i zE))) (fun i => .string ⟨(eH (l.getD i zE)).toArray⟩) (fun i => P (l.getD i zE)) (by omega) W (by
      obtain ⟨ao', cap', e, -, hA⟩ := hO.ens.of_bl hW
      cases e
      exact ens_hA hA) (fun i hi V hV => HGO.out _ (by rw [getD_get _ _ _ hi]; exact List.getElem_mem hi) V (bl_gr hW (Bl.toGr hV _)))
  have IC := Lib.hid IC0
  rcases ixB_cases (fun i => P (l.getD i zE)) l.length with ⟨hix, hno⟩ | ⟨k0, hk0, hix, hyes, hno⟩
  · have hfl : (l.filter fun x => !P x) = l := by
      rw [← flt_all, flt_none (fun j hj _ => by have := hno j hj; rwa [getD_get _ _ _ hj] at this), List.take_length]
    rw [hix] at IC
    rw [hfl]
    clear hA hgo IC0 hO
    go_enter Tryz.func30, Tryz.ntmps30
    go_wp2_with (go_at_call 45; (with_reducible refine (IC.out _ (Bl.refl _)).mono ?_); rintro e w1 ⟨rfl, hb1⟩)
    go_ret
    exact ⟨_, rfl, HO.out.of_bl hb1, Bl.toGr hb1 _⟩
  · obtain ⟨g, cap', cur, e, hbg, hg, hnc, hcm, hcs, hcur⟩ := own_rowE hO (by omega)
    cases e
    rw [hix] at IC
    have hF0 : flt P l (k0 + 1) = l.take k0 := by
      rw [flt_next P l k0 hk0]
      have := hyes
      rw [getD_get _ _ _ hk0] at this
      rw [this, flt_none (fun j hj hjk => by have := hno j hjk; rwa [getD_get _ _ _ hj] at this)]
      simp
    have hM0 : Mid w g cap P l (k0 + 1) := ⟨cur, hg, hcs, by
      rw [hF0, List.length_take]
      intro j hj
      rw [hcur j (by omega), enW_take l k0 (by omega), List.getElem?_take, if_pos (by omega)], fun j _ b => hcur j b⟩
    have hl0 : (flt P l (k0 + 1)).length = k0 := by rw [hF0, List.length_take]; omega
    have HM0 := Lib.hid hM0
    have hneg : ((k0 : Int) == -1) = false := by rw [beq_eq_false_iff_ne]; omega
    have hw1 : IntKind.i64.wrap ((k0 : Int) + 1) = (k0 : Int) + 1 := by rw [IntKind.wrap_i64]; omega
    clear hA hgo IC0 hO hM0 hg hcur hF0 hno hyes
    go_enter Tryz.func30, Tryz.ntmps30
    go_wp2_with (go_at_call 45; (with_reducible refine (IC.out _ (Bl.refl _)).mono ?_); rintro e w1 ⟨rfl, hb1⟩)
    clear hw1
    go_loopw [5, 6] (fun m i wr => ∃ k : Nat, k0 < k ∧ k ≤ l.length ∧ i = .int .i64 k ∧ m = .int .i64 (flt P l k).length ∧ Hid (Mid wr g cap P l k) ∧ (flt P l k).length < k ∧ w.grownBy wr (some g)) (fun _ i _ => l.length - (intOf i).toNat)
    case atStart => exact ⟨k0 + 1, by omega, by omega, rfl, by rw [hl0], Lib.hid (HM0.out.of_bl hb1), by omega, Bl.toGr hb1 _⟩
    case round =>
      obtain ⟨k, hk0k, hk, rfl, rfl, HM, hmk, hgr⟩ := hrel
      have hglt := HM.out.lt
      by_cases hlt : k < l.length
      · obtain ⟨x1, x2, x3, x4, x5⟩ := HM.out.cells hlt
        have GO0 := HGO.out l[k] (List.getElem_mem hlt)
        unfold enV at GO0
        have HN := Lib.hid (flt_next P l k hlt)
        cases hp : P l[k]
        · rw [hp] at GO0
          have GO := Lib.hid GO0
          have HP := Lib.hid hp
          clear GO0 hp
          have hmlt : (flt P l k).length < l.length := by omega
          go_wp2_with ((with_reducible refine (GO.out _ (gr_bl hgr ((Bl.refl _).alloc _))).mono ?_); rintro e w2 ⟨rfl, hb2⟩; obtain ⟨lq, y0, y1, y2, y3, y4⟩ := (B5.new wr l[k] 36).of_bl hb2; have HM2 := Lib.hid ((HM.out.of_bl ((Bl.refl _).alloc _)).of_bl hb2); obtain ⟨⟨u0, z0⟩, f0⟩ := HM2.out.spare ((flt P l k).length * 5) (by omega); obtain ⟨⟨u1, z1⟩, f1⟩ := HM2.out.spare ((flt P l k).length * 5 + 1) (by omega); obtain ⟨⟨u2, z2⟩, f2⟩ := HM2.out.spare ((flt P l k).length * 5 + 2) (by omega); obtain ⟨⟨u3, z3⟩, f3⟩ := HM2.out.spare ((flt P l k).length * 5 + 3) (by omega); obtain ⟨⟨u4, z4⟩, f4⟩ := HM2.out.spare ((flt P l k).length * 5 + 4) (by omega))
          go_roundw
          case rel =>
            have hln : (flt P l (k + 1)).length = (flt P l k).length + 1 := by rw [HN.out, HP.out]; simp
            refine ⟨k + 1, by omega, by omega, by go_num, by rw [hln]; go_num, ?_, by omega, ?_⟩
            · rw [set5]
              exact Lib.hid (HM2.out.keep hlt HP.out hmk hcap)
            · rw [set5]
              exact World.grownBy.trans (gr_bl hgr (Bl.trans ((Bl.refl _).alloc _) hb2)) (setCells_gr _ _ _ _)
          case measure => simp [intOf]; omega
        · rw [hp] at GO0
          have GO := Lib.hid GO0
          have HP := Lib.hid hp
          clear GO0 hp
          go_wp2_with ((with_reducible refine (GO.out _ (gr_bl hgr ((Bl.refl _).alloc _))).mono ?_); rintro e w2 ⟨rfl, hb2⟩)
          go_roundw
          case rel =>
            have hln : (flt P l (k + 1)).length = (flt P l k).length := by rw [HN.out, HP.out]; simp
            exact ⟨k + 1, by omega, by omega, by go_num, by rw [hln], Lib.hid ((HM.out.skip hlt HP.out).of_bl (Bl.trans ((Bl.refl _).alloc _) hb2)), by omega, gr_bl hgr (Bl.trans ((Bl.refl _).alloc _) hb2)⟩
          case measure => simp [intOf]; omega
      · obtain rfl : k = l.length := by omega
        obtain ⟨m, hm⟩ : ∃ m, m = (flt P l l.length).length := ⟨_, rfl⟩
        have HF := Lib.hid (flt_all P l)
        obtain ⟨cur1, hg1, hs1, hc1, -⟩ := HM.out
        rw [← hm] at hmk
        have hcl := fun ty c => run_clear_ent wr ty g (m * 5) (l.length - m) c cur1 hg1 (by omega) (by rw [hs1]; omega)
        obtain ⟨cur2, hg2, hs2, hc2⟩ := setCells_hp g _ _ (enW (List.replicate (l.length - m) zE)) (m * 5) wr cur1 hg1
        have hgr2 := World.grownBy.trans hgr (setCells_gr g (enW (List.replicate (l.length - m) zE)) (m * 5) wr)
        obtain ⟨w3, hw3⟩ : ∃ w3, w3 = wr.setCells g (m * 5) (enW (List.replicate (l.length - m) zE)) := ⟨_, rfl⟩
        rw [← hw3] at hcl hg2 hgr2
        have HRES := Lib.hid (show ∃ v', Value.slice (some ⟨g, 0, none⟩) m cap = v' ∧ EnO w3 base v' (l.filter fun x => !P x) ∧ w.grownBy w3 (some g) from by
          refine ⟨_, rfl, ?_, hgr2⟩
          unfold EnO
          rw [← HF.out, ← hm]
          refine own_mk hbg hg2 (by omega) hcm (by rw [hs2, hs1]) (by rw [enW_len, ← hm]) (fun j hj => ?_)
          rw [hc2 j, if_neg (by omega)]
          exact hc1 j (by rw [← hm]; exact hj))
        clear hg2 hs2 hc2 hgr2 hw3 hg1 hs1 hc1 HM hgr
        have hcapm : ¬ cap = m := by omega
        have hml : m ≤ l.length := by omega
        have hmc : m ≤ cap := by omega
        simp only [← hm]
        clear hm
        go_wp2
        go_ret
        obtain ⟨v', hv', hr⟩ := HRES.out
        exact ⟨v', congrArg Ending.returned hv', hr⟩
end Go.Proofs.YthnpljkekhieiaaGreatDoor

namespace Go.Proofs.YthnpljkekhieiaaGreatDoor
open Go.RowKit

theorem cf_was : ∀ (args : Array Value) (W : World), Sem.run Tryz.prog (callFunc 29 args) W = .ok (.enter 29 args) W := by
  intro args W
  simp [callFunc, go_sem, Tryz.func29, Tryz.f29]
theorem drop_was {w W : World} {base b : Nat} {es : List Ent} {rd : List Nm} {ve vr : Value} (hb : w.heap[b]? = some (.cells #[ve, vr] 57)) (hE : EnO w base ve es) (hR : StO w base vr rd) (hbw : base ≤ w.heap.size) (hW : Bl w W) (hl : rd.length ≤ 1000000) :
    ∀ x ∈ es, ∀ V, W.grownBy V ve.ownBlock → Calls Tryz.prog 29 #[.pointer (some ⟨b, 0, none⟩), enV x] V fun e w' => e = .returned (.bool (fnT rd (eI x))) ∧ Bl V w' := fun x _ V hV => by
  obtain ⟨h1, h2, -⟩ := put_ins hb hE hR hbw hV hW
  exact was_c b ve vr rd x hl V h1 h2.sts
set_option maxRecDepth 100000 in
set_option maxHeartbeats 4000000 in
theorem Drop_bad (s : Shf) (v : Value) (hI : ∀ x ∈ s.1, (eI x).length ≤ 9223372036854775807) (hc : ckS s ≠ 0) (w : World) (hE : ES w) (hM : ML w) (hS : ShS w v s) :
    Calls Tryz.prog 10 #[v] w fun e w' => e = .returned (.tuple #[.agg #[.slice none 0 0, .slice none 0 0], .int .i64 0, .int .i64 (ckS s)]) ∧ Bl w w' := by
  have CK := Lib.hid (fun W (hh : Bl w W) => checkS_c s v hI W (hE.of_bl hh) (hM.of_bl hh) (hS.of_bl hh))
  obtain ⟨C, hC⟩ : ∃ C, C = ckS s := ⟨_, rfl⟩
  rw [← hC] at CK hc ⊢
  clear hC
  obtain ⟨ve, vr, rfl, hEn, hRd⟩ := hS
  obtain ⟨ao, cap, rfl, hcap, -⟩ := hEn
  obtain ⟨ar, cr, rfl, hcr, -⟩ := hRd
  have hq0 : ((w.alloc (.cells #[.slice ao s.1.length cap, .slice ar s.2.length cr] 25)).alloc (.cells #[.slice none 0 0, .slice none 0 0] 25)).heap[w.heap.size + 1]? = some (.cells #[.slice none 0 0, .slice none 0 0] 25) := by
    have := heap_alloc_new (w.alloc (.cells #[.slice ao s.1.length cap, .slice ar s.2.length cr] 25)) (.cells #[.slice none 0 0, .slice none 0 0] 25)
    simpa using this
  have hp0 := keep_bl (heap_alloc_new w (.cells #[.slice ao s.1.length cap, .slice ar s.2.length cr] 25)) ((Bl.refl _).alloc (.cells #[.slice none 0 0, .slice none 0 0] 25))
  clear hE hM
  go_enter Tryz.func10, Tryz.ntmps10
  go_wp2_with (go_at_call 11; (with_reducible refine (CK.out _ (by repeat (first | exact Bl.refl _ | refine Bl.drew ?_ | refine Bl.drewN ?_ _ | refine Bl.alloc ?_ _))).mono ?_); rintro e w1 ⟨rfl, hb1⟩; have hW1 : Bl w w1 := Bl.trans (by repeat (first | exact Bl.refl _ | refine Bl.drew ?_ | refine Bl.drewN ?_ _ | refine Bl.alloc ?_ _)) hb1; have hp1 := keep_bl hp0 hb1; have hq1 := keep_bl hq0 hb1; obtain ⟨lp, p0, p1⟩ := keep_cells hp1; obtain ⟨lq, q0, q1⟩ := keep_cells hq1; have f0 := frozen_of_row (j := 0) hq1; have f1 := frozen_of_row (j := 1) hq1)
  refine bodyPost_ret (results_cell3 rfl _ _ (w.heap.size + 1) 25 #[.slice none 0 0, .slice none 0 0] (0, 0) _ rfl (set2 hq1 hW1 (by omega)).1 Tryz.underlying25 rfl Tryz.infoShf) rfl ?_
  exact ⟨rfl, (set2 hq1 hW1 (by omega)).2.1⟩
set_option maxRecDepth 100000 in
set_option maxHeartbeats 4000000 in
theorem Drop_ok (s : Shf) (v : Value) (hI : ∀ x ∈ s.1, (eI x).length ≤ 9223372036854775807) (hck : ckS s = 0) (w : World) (hE : ES w) (hM : ML w) (hS : ShS w v s) :
    Calls Tryz.prog 10 #[v] w fun e w' => ∃ sv, e = .returned (.tuple #[sv, .int .i64 ((s.1.length : Int) - ((drL s).length : Int)), .int .i64 0]) ∧ ShS w' sv (drL s, s.2) ∧ Bl w w' := by
  have CK := Lib.hid (fun W (hh : Bl w W) => checkS_c s v hI W (hE.of_bl hh) (hM.of_bl hh) (hS.of_bl hh))
  rw [hck] at CK
  have hRs := (ckS_iff s).1 hck
  obtain ⟨hs20, hs40, -, -, -⟩ := hRs
  have OW := Lib.hid (fun W (hh : Bl w W) => own_c s v (by omega) (by omega) W (hS.of_bl hh))
  have hcf := cf_was
  have hdl : (drL s).length ≤ 20 := Nat.le_trans (List.length_filter_le _ _) hs20
  have HD := Lib.hid (show (s.1.filter fun x => !fnT s.2 (eI x)) = drL s from rfl)
  obtain ⟨ve, vr, rfl, hEn, hRd⟩ := hS
  obtain ⟨ao, cap, rfl, hcap, -⟩ := hEn
  obtain ⟨ar, cr, rfl, hcr, -⟩ := hRd
  have hq0 : ((w.alloc (.cells #[.slice ao s.1.length cap, .slice ar s.2.length cr] 25)).alloc (.cells #[.slice none 0 0, .slice none 0 0] 25)).heap[w.heap.size + 1]? = some (.cells #[.slice none 0 0, .slice none 0 0] 25) := by
    have := heap_alloc_new (w.alloc (.cells #[.slice ao s.1.length cap, .slice ar s.2.length cr] 25)) (.cells #[.slice none 0 0, .slice none 0 0] 25)
    simpa using this
  have hp0 := keep_bl (heap_alloc_new w (.cells #[.slice ao s.1.length cap, .slice ar s.2.length cr] 25)) ((Bl.refl _).alloc (.cells #[.slice none 0 0, .slice none 0 0] 25))
  clear hE hM
  go_enter Tryz.func10, Tryz.ntmps10
  go_wp2_with (first | (go_at_call 11; (with_reducible refine (CK.out _ (by repeat (first | exact Bl.refl _ | refine Bl.drew ?_ | refine Bl.drewN ?_ _ | refine Bl.alloc ?_ _))).mono ?_); rintro e w1 ⟨rfl, hb1⟩; have hW1 : Bl w w1 := Bl.trans (by repeat (first | exact Bl.refl _ | refine Bl.drew ?_ | refine Bl.drewN ?_ _ | refine Bl.alloc ?_ _)) hb1; have hp1 := keep_bl hp0 hb1; have hq1 := keep_bl hq0 hb1; obtain ⟨lp, p0, p1⟩ := keep_cells hp1; obtain ⟨lq, q0, q1⟩ := keep_cells hq1; have f0 := frozen_of_row (j := 0) hq1; have f1 := frozen_of_row (j := 1) hq1) | (go_at_call 24; (with_reducible refine (OW.out _ hW1).mono ?_); rintro e w3 ⟨b3, rfl, ⟨ve3, vr3, hb3, hbb3, hE3, hR3⟩, hbl3⟩; have hW3 := hW1.trans hbl3; have HE3 := Lib.hid hE3; have HR3 := Lib.hid hR3; have DC := Lib.hid (fun W (hh : Bl w3 W) => delF_c 29 (.pointer (some ⟨b3, 0, none⟩)) hcf w1.heap.size s.1 ve3 (fun x => fnT s.2 (eI x)) (by omega) W (HE3.out.of_bl hh) (drop_was hb3 HE3.out HR3.out (Below.size hbl3) hh (by omega))); obtain ⟨ae, ce, rfl, -⟩ := own_shp hE3; obtain ⟨at3, ct3, rfl, hct3⟩ := own_shp hR3; clear hE3 hR3; have hq3 := keep_bl hq1 hbl3; obtain ⟨lk3, k0, k1⟩ := keep_cells hb3) | (go_at_call 30; (with_reducible refine (DC.out _ (by repeat (first | exact Bl.refl _ | refine Bl.drew ?_ | refine Bl.drewN ?_ _ | refine Bl.alloc ?_ _))).mono ?_); rintro e w6 ⟨v6, rfl, hO6, hg6⟩; rw [HD.out] at hO6; obtain ⟨kb6, hR6, hB6⟩ := put_ins hb3 HE3.out HR3.out (Below.size hbl3) hg6 (by repeat (first | exact Bl.refl _ | refine Bl.drew ?_ | refine Bl.drewN ?_ _ | refine Bl.alloc ?_ _)); obtain ⟨lk6, c0, c1⟩ := keep_cells kb6; have d0 := frozen_of_row (j := 0) kb6; obtain ⟨ao6, cap6, rfl, -⟩ := own_shp hO6; obtain ⟨kb7, hO7, hR7, hB7⟩ := kp_set0 kb6 hO6 hR6 hbb3 (Nat.le_trans (Below.size hbl3) (Below.size hB6)); have hB37 := Below.trans hB6 hB7; have hq6 := (Below.block hB6 _ lq).trans hq3; obtain ⟨lq6, t0, t1⟩ := keep_cells hq6; have u0 := frozen_of_row (j := 0) hq6; have u1 := frozen_of_row (j := 1) hq6; have hp6 := (Below.block hB6 _ lp).trans (keep_bl hp1 hbl3); obtain ⟨lp6, s0, s1⟩ := keep_cells hp6; have hqb : ¬ (w.heap.size + 1 = b3) := (by omega); have hqb2 : ¬ (b3 = w.heap.size + 1) := (by omega); have hpb : ¬ (w.heap.size = b3) := (by omega); have hpb2 : ¬ (b3 = w.heap.size) := (by omega); have hW7 := below_up hW3 hB37 (show w.heap.size ≤ w1.heap.size by omega); have hq7 := (Below.block hB37 _ lq).trans hq3; have HE7 := Lib.hid hO7; have HR7 := Lib.hid hR7; have HQ7 := Lib.hid hq7; clear hO7 hR7 hq7 kb7))
  go_region
  go_wp2
  have h2 := set2 (c := .slice ao6 (drL s).length cap6) (d := .slice at3 s.2.length ct3) HQ7.out hW7 (by omega)
  refine bodyPost_ret (results_cell3 rfl _ _ (w.heap.size + 1) 25 #[.slice ao6 (drL s).length cap6, .slice at3 s.2.length ct3] (0, 0) _ rfl h2.1 Tryz.underlying25 rfl Tryz.infoShf) rfl ?_
  exact ⟨_, rfl, (shelf_end HE7.out HR7.out h2.2.2 lq).of_bl ((Bl.refl _).drew), h2.2.1.drew⟩
end Go.Proofs.YthnpljkekhieiaaGreatDoor

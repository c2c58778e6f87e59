/- Shelves: entries that are the same; slices.Contains; put, whole. · Shelves: Put, where it finds something wrong. -/
import Derived.Test.YthnpljkekhieiaaGreatDoorShU
import Derived.Laws.StructEq
namespace Go.Proofs.YthnpljkekhieiaaGreatDoor
open Go.RowKit

theorem putK_c (base b : Nat) (es : List Ent) (rd : List Nm) (x : Ent) (hl : es.length ≤ 100000) (hT : ∀ y ∈ es, Tm y) (hx : Tm x) (w : World) (hK : KpS w base b es rd) (hbw : base ≤ w.heap.size) :
    Calls Tryz.prog 34 #[.pointer (some ⟨b, 0, none⟩), enV x] w fun e w' => e = .returned (.tuple #[]) ∧ KpS w' base b (putE es x) rd ∧ Below base w w' := by
  unfold putE
  cases hp : plE es (eI x) with
  | none => exact put_none base b es rd x hl hT hx hp w hK hbw
  | some i =>
    obtain ⟨hi, _⟩ := plE_some hp
    simp only [getD_get _ _ _ hi]
    by_cases hlt : eA x < eA es[i]
    · rw [if_pos hlt]; exact put_old base b i es rd x hl hT hx hp hi hlt w hK hbw
    · rw [if_neg hlt]; exact put_new base b i es rd x hl hT hx hp hi hlt w hK hbw
theorem eq_ent (a b : Ent) (W : World) : (binOp .eql 36 (enV a) (enV b)).run Tryz.prog W = .ok (.bool (decide (a = b))) W := by
  have hS : Tryz.prog.underlying 36 = some (.struct (Tryz.prog.fieldsOf 36)) := by kernel_rfl
  have hp : Tryz.prog.stoodInHeld 36 = false := by kernel_rfl
  have hs := Tryz.underlying9
  have hi := Tryz.underlying3
  unfold enV
  rw [run_eql_struct, show (10000 : Nat) = 9999 + 1 from rfl, run_equalIn_agg W 9999 36 _ _ hS hp]
  simp only [Program.fieldsOf, Tryz.underlying36]
  go_simp
  obtain ⟨a1, a2, a3, a4, a5⟩ := a
  obtain ⟨b1, b2, b3, b4, b5⟩ := b
  simp only [eI, eT, eL, eA, eH]
  by_cases h1 : a1 = b1 <;> by_cases h2 : a2 = b2 <;> by_cases h3 : a3 = b3 <;> by_cases h4 : a4 = b4 <;> by_cases h5 : a5 = b5 <;> simp [h1, h2, h3, h4, h5]
set_option maxHeartbeats 2000000 in
theorem indexE_c (l : List Ent) (v : Value) (x : Ent) (hn : l.length ≤ 1099511627776) (w : World) (hA : EnS w v l) :
    Calls Tryz.prog 58 #[v, enV x] w fun e w' => e = .returned (.int .i64 (ixB (fun i => decide (x = l.getD i zE)) l.length)) ∧ Bl w w' := by
  obtain ⟨ao, cap, rfl, hcap, hA⟩ := hA
  have hB0 := B5.new w x 36
  have hmm : Tryz.prog.eqGuardType Tryz.prog.depth 36 = false := by kernel_rfl
  have HQ := Lib.hid (fun (y : Ent) W => eq_ent x y W)
  unfold enV at HQ ⊢
  go_enter Tryz.func58, Tryz.ntmps58
  go_wp2
  go_loopw [8] (fun i wr => ∃ k : Nat, k ≤ l.length ∧ i = .int .i64 k ∧ Hid (∀ j, j < k → decide (x = l.getD j zE) = false) ∧ Bl (w.alloc (enO x 36)) wr) (fun i _ => l.length - (intOf i).toNat)
  case atStart => exact ⟨0, Nat.zero_le _, rfl, Lib.hid (fun j h => by omega), Bl.refl _⟩
  case round =>
    obtain ⟨k, hk, rfl, HP, hbl⟩ := hrel
    have hww : Bl w wr := Bl.trans ((Bl.refl _).alloc _) hbl
    obtain ⟨l1, y0, y1, y2, y3, y4⟩ := hB0.of_bl hbl
    by_cases hlt : k < l.length
    · obtain ⟨g, o, rfl, hg, h1, h2, h3, h4, h5⟩ := hA k hlt
      have x1 := (hww.cells.1 g _ hg).trans h1
      have x2 := (hww.cells.1 g _ hg).trans h2
      have x3 := (hww.cells.1 g _ hg).trans h3
      have x4 := (hww.cells.1 g _ hg).trans h4
      have x5 := (hww.cells.1 g _ hg).trans h5
      have hgd : l.getD k zE = l[k] := getD_get _ _ _ hlt
      have hq := HQ.out l[k]
      clear h1 h2 h3 h4 h5 hA
      by_cases he : x = l[k]
      · have hne : decide (x = l[k]) = true := by simp [he]
        have HE := Lib.hid he
        clear he
        go_wp2_with (go_quiet (fail))
        go_ret
        exact ⟨ret_int (ixB_hit _ _ k hlt (by rw [hgd]; exact decide_eq_true HE.out) HP.out).symm, hww.drewN _⟩
      · have hne : decide (x = l[k]) = false := by simp [he]
        have HE := Lib.hid he
        clear he
        go_wp2_with (go_quiet (fail))
        go_roundw
        case rel =>
          refine ⟨k + 1, by omega, by go_num, Lib.hid (fun j hjk => ?_), hbl.drewN _⟩
          by_cases e : j = k
          · subst e; rw [hgd]; exact decide_eq_false HE.out
          · exact HP.out j (by omega)
        case measure => simp [intOf]; omega
    · clear hA
      go_wp2
      go_ret
      exact ⟨ret_int (ixB_miss _ _ (fun j hj => HP.out j (by omega))).symm, hww⟩
theorem any_eqE (l : List Ent) (x : Ent) : ((List.range l.length).any fun i => decide (x = l.getD i zE)) = l.contains x := by
  rw [any_range (fun y => decide (x = y)) l zE, Bool.eq_iff_iff, List.any_eq_true, List.contains_iff_mem]
  constructor
  · rintro ⟨y, hy, h⟩; rw [of_decide_eq_true h]; exact hy
  · intro h; exact ⟨x, h, by simp⟩
set_option maxHeartbeats 1000000 in
theorem containsE_c (l : List Ent) (v : Value) (x : Ent) (hn : l.length ≤ 1099511627776) (w : World) (hA : EnS w v l) :
    Calls Tryz.prog 35 #[v, enV x] w fun e w' => e = .returned (.bool (l.contains x)) ∧ Bl w w' := by
  have hB0 := B5.new w x 36
  have HX := Lib.hid ((ixB_any (fun i => decide (x = l.getD i zE)) l.length).trans (any_eqE l x))
  have IC0 := fun W (hh : Bl w W) => indexE_c l v x hn W (hA.of_bl hh)
  unfold enV at IC0 ⊢
  have IC := Lib.hid IC0
  obtain ⟨ao, cap, rfl, hcap, hA⟩ := hA
  clear IC0 hA
  obtain ⟨l1, y0, y1, y2, y3, y4⟩ := hB0
  go_enter Tryz.func35, Tryz.ntmps35
  go_wp2_with (go_at_call 58; (with_reducible refine (IC.out _ ((Bl.refl _).alloc _)).mono ?_); rintro e w' ⟨rfl, hb'⟩)
  go_ret
  exact ⟨ret_bool HX.out, Bl.trans ((Bl.refl _).alloc _) hb'⟩
end Go.Proofs.YthnpljkekhieiaaGreatDoor

namespace Go.Proofs.YthnpljkekhieiaaGreatDoor
open Go.RowKit

theorem results_cell3 {P : Program} {fn : Func} {p u1 u2 : Tmp} {ty : TypeId} (h : fn.results = #[.cell p ty, .tmp u1, .tmp u2]) (tmps : Array Value) (w : World) (g : Nat) (t : TypeId) (cs : Array Value) (fr : Nat × Nat) (d : TypeDesc)
    (hp : tmps.getD p undef = .pointer (some ⟨g, 0, none⟩)) (hg : w.heap[g]? = some (.cells cs t fr))
    (hu : P.underlying ty = some d) (hd : (match d with | .struct _ | .array _ _ => true | _ => false) = true) (hi : (P.info? ty).map (·.size) = some cs.size) :
    (results fn tmps).run P w = .ok (.tuple #[.agg cs, tmps.getD u1 undef, tmps.getD u2 undef]) w := by
  have hp' : tmps[p]?.getD undef = .pointer (some ⟨g, 0, none⟩) := by simpa using hp
  simp [results, h, hp', asAddr, run_loadVar_row w g t ty cs fr d hg hu hd hi]
theorem results_cell2 {P : Program} {fn : Func} {p u1 : Tmp} {ty : TypeId} (h : fn.results = #[.cell p ty, .tmp u1]) (tmps : Array Value) (w : World) (g : Nat) (t : TypeId) (cs : Array Value) (fr : Nat × Nat) (d : TypeDesc)
    (hp : tmps.getD p undef = .pointer (some ⟨g, 0, none⟩)) (hg : w.heap[g]? = some (.cells cs t fr))
    (hu : P.underlying ty = some d) (hd : (match d with | .struct _ | .array _ _ => true | _ => false) = true) (hi : (P.info? ty).map (·.size) = some cs.size) :
    (results fn tmps).run P w = .ok (.tuple #[.agg cs, tmps.getD u1 undef]) w := by
  have hp' : tmps[p]?.getD undef = .pointer (some ⟨g, 0, none⟩) := by simpa using hp
  simp [results, h, hp', asAddr, run_loadVar_row w g t ty cs fr d hg hu hd hi]
theorem Tryz.infoShf : (Tryz.prog.info? 25).map (·.size) = some 2 := by kernel_rfl
/-- Both cells of a new block of two are stored. -/
theorem set2 {w W : World} {q : Nat} {a b c d : Value} {t : TypeId} (h : W.heap[q]? = some (.cells #[a, b] t (0, 0))) (hb : Bl w W) (hq : w.heap.size ≤ q) :
    ((W.setCell ⟨q, 0, none⟩ c).setCell ⟨q, 1, none⟩ d).heap[q]? = some (.cells #[c, d] t (0, 0)) ∧ Bl w ((W.setCell ⟨q, 0, none⟩ c).setCell ⟨q, 1, none⟩ d) ∧ W.grownBy ((W.setCell ⟨q, 0, none⟩ c).setCell ⟨q, 1, none⟩ d) (some q) := by
  obtain ⟨c1, h1, s1, e1⟩ := set_hp (o := 0) (v := c) h
  obtain ⟨c2, h2, s2, e2⟩ := set_hp (o := 1) (v := d) h1
  have hc : c2 = #[c, d] := twoOf (by rw [s2, s1]; rfl) (by rw [e2, if_neg (by omega), e1]; rfl) (by rw [e2, s1]; rfl)
  have hg : W.grownBy ((W.setCell ⟨q, 0, none⟩ c).setCell ⟨q, 1, none⟩ d) (some q) := World.grownBy.trans (setCells_gr q [c] 0 W) (setCells_gr q [d] 1 _)
  exact ⟨by rw [h2, hc], Below.trans hb (gr_below hg (Below.size hb) (fun k hk => by cases hk; exact hq)), hg⟩
theorem enC_none {l : List Ent} (h : ∀ j (hj : j < l.length), chkE l[j] = 0) : enC l = 0 := by
  unfold enC
  rw [List.find?_eq_none.2 (fun x hx => by obtain ⟨j, hj, rfl⟩ := List.getElem_of_mem hx; simp [h j hj])]
theorem enC_first {l : List Ent} {k : Nat} (hk : k < l.length) (h : ∀ j (hj : j < l.length), j < k → chkE l[j] = 0) (hc : chkE l[k] ≠ 0) : enC l = chkE l[k] := by
  unfold enC
  rw [List.find?_eq_some_iff_getElem.2 ⟨by simpa using hc, k, hk, rfl, fun j hj => by simpa using h j (by omega) hj⟩]
set_option maxRecDepth 100000 in
set_option maxHeartbeats 4000000 in
theorem Put_bad1 (s : Shf) (v va : Value) (l : List Ent) (hI : ∀ x ∈ s.1, (eI x).length ≤ 9223372036854775807) (_hl : l.length ≤ 9223372036854775807) (hc : ckS s ≠ 0) (w : World) (hE : ES w) (hM : ML w) (hS : ShS w v s) (hA : EnS w va l) :
    Calls Tryz.prog 13 #[v, va] w fun e w' => e = .returned (.tuple #[.agg #[.slice none 0 0, .slice none 0 0], .int .i64 0, .int .i64 (putC s l)]) ∧ Bl w w' := by
  have CK := Lib.hid (fun W (hh : Bl w W) => checkS_c s v hI W (hE.of_bl hh) (hM.of_bl hh) (hS.of_bl hh))
  obtain ⟨ve, vr, rfl, hEn, hRd⟩ := hS
  obtain ⟨ao, cap, rfl, hcap, -⟩ := hEn
  obtain ⟨ar, cr, rfl, hcr, -⟩ := hRd
  have HA := Lib.hid hA
  obtain ⟨aa, ca, rfl, hca, hA⟩ := hA
  obtain ⟨C, hC⟩ : ∃ C, C = ckS s := ⟨_, rfl⟩
  rw [← hC] at CK
  have hp : putC s l = C := by unfold putC; rw [if_pos hc, hC]
  rw [← hC] at hc
  rw [hp]
  clear hp hC hA
  have hq0 : ((w.alloc (.cells #[.slice ao s.1.length cap, .slice ar s.2.length cr] 25)).alloc (.cells #[.slice none 0 0, .slice none 0 0] 25)).heap[w.heap.size + 1]? = some (.cells #[.slice none 0 0, .slice none 0 0] 25) := by
    have := heap_alloc_new (w.alloc (.cells #[.slice ao s.1.length cap, .slice ar s.2.length cr] 25)) (.cells #[.slice none 0 0, .slice none 0 0] 25)
    simpa using this
  go_enter Tryz.func13, Tryz.ntmps13
  go_wp2_with (go_at_call 11; (with_reducible refine (CK.out _ (by repeat (first | exact Bl.refl _ | refine Bl.drew ?_ | refine Bl.alloc ?_ _))).mono ?_); rintro e w1 ⟨rfl, hb1⟩; have hW1 : Bl w w1 := Bl.trans (by repeat (first | exact Bl.refl _ | refine Bl.drew ?_ | refine Bl.alloc ?_ _)) hb1; have hq1 := keep_bl hq0 hb1; obtain ⟨lq, q0, q1⟩ := keep_cells hq1; have f0 := frozen_of_row (j := 0) hq1; have f1 := frozen_of_row (j := 1) hq1)
  have HQ := Lib.hid hq1
  go_loopw [7, 8] (fun c i wr => c = .int .i64 C ∧ i = .int .i64 0 ∧ wr = w1) (fun _ _ _ => 0)
  case atStart => exact ⟨rfl, rfl, rfl⟩
  case round =>
    obtain ⟨rfl, rfl, rfl⟩ := hrel
    go_wp2
    all_goals
      refine bodyPost_ret (results_cell3 rfl _ _ (w.heap.size + 1) 25 #[.slice none 0 0, .slice none 0 0] (0, 0) _ rfl (set2 HQ.out hW1 (by omega)).1 Tryz.underlying25 rfl Tryz.infoShf) rfl ?_
      exact ⟨rfl, (set2 HQ.out hW1 (by omega)).2.1⟩
set_option maxRecDepth 100000 in
set_option maxHeartbeats 4000000 in
theorem Put_bad2 (s : Shf) (v va : Value) (l : List Ent) (hI : ∀ x ∈ s.1, (eI x).length ≤ 9223372036854775807) (hl : l.length ≤ 9223372036854775807) (hc : ckS s = 0) (h12 : 12 < l.length) (w : World) (hE : ES w) (hM : ML w) (hS : ShS w v s) (hA : EnS w va l) :
    Calls Tryz.prog 13 #[v, va] w fun e w' => e = .returned (.tuple #[.agg #[.slice none 0 0, .slice none 0 0], .int .i64 0, .int .i64 (putC s l)]) ∧ Bl w w' := by
  have CK := Lib.hid (fun W (hh : Bl w W) => checkS_c s v hI W (hE.of_bl hh) (hM.of_bl hh) (hS.of_bl hh))
  obtain ⟨ve, vr, rfl, hEn, hRd⟩ := hS
  obtain ⟨ao, cap, rfl, hcap, -⟩ := hEn
  obtain ⟨ar, cr, rfl, hcr, -⟩ := hRd
  have HA := Lib.hid hA
  obtain ⟨aa, ca, rfl, hca, hA⟩ := hA
  obtain ⟨C, hC⟩ : ∃ C, C = ckS s := ⟨_, rfl⟩
  rw [← hC] at CK
  have hp : putC s l = 2 := by unfold putC; rw [if_neg (by rw [hc]; simp), if_pos h12]
  have h12' : (12 : Int) < (l.length : Int) := by omega
  rw [hc] at hC
  subst hC
  rw [hp]
  clear hp hA hc
  have hq0 : ((w.alloc (.cells #[.slice ao s.1.length cap, .slice ar s.2.length cr] 25)).alloc (.cells #[.slice none 0 0, .slice none 0 0] 25)).heap[w.heap.size + 1]? = some (.cells #[.slice none 0 0, .slice none 0 0] 25) := by
    have := heap_alloc_new (w.alloc (.cells #[.slice ao s.1.length cap, .slice ar s.2.length cr] 25)) (.cells #[.slice none 0 0, .slice none 0 0] 25)
    simpa using this
  go_enter Tryz.func13, Tryz.ntmps13
  go_wp2_with (go_at_call 11; (with_reducible refine (CK.out _ (by repeat (first | exact Bl.refl _ | refine Bl.drew ?_ | refine Bl.alloc ?_ _))).mono ?_); rintro e w1 ⟨rfl, hb1⟩; have hW1 : Bl w w1 := Bl.trans (by repeat (first | exact Bl.refl _ | refine Bl.drew ?_ | refine Bl.alloc ?_ _)) hb1; have hq1 := keep_bl hq0 hb1; obtain ⟨lq, q0, q1⟩ := keep_cells hq1; have f0 := frozen_of_row (j := 0) hq1; have f1 := frozen_of_row (j := 1) hq1)
  have HQ := Lib.hid hq1
  go_loopw [7, 8] (fun c i wr => c = .int .i64 2 ∧ i = .int .i64 0 ∧ wr = w1) (fun _ _ _ => 0)
  case atStart => exact ⟨rfl, rfl, rfl⟩
  case round =>
    obtain ⟨rfl, rfl, rfl⟩ := hrel
    go_wp2
    all_goals
      refine bodyPost_ret (results_cell3 rfl _ _ (w.heap.size + 1) 25 #[.slice none 0 0, .slice none 0 0] (0, 0) _ rfl (set2 HQ.out hW1 (by omega)).1 Tryz.underlying25 rfl Tryz.infoShf) rfl ?_
      exact ⟨rfl, (set2 HQ.out hW1 (by omega)).2.1⟩
set_option maxRecDepth 100000 in
set_option maxHeartbeats 4000000 in
theorem Put_bad3 (s : Shf) (v va : Value) (l : List Ent) (hI : ∀ x ∈ s.1, (eI x).length ≤ 9223372036854775807) (hl : l.length ≤ 9223372036854775807) (hc : ckS s = 0) (h12 : ¬ 12 < l.length) (he : enC l ≠ 0) (w : World) (hE : ES w) (hM : ML w) (hS : ShS w v s) (hA : EnS w va l) :
    Calls Tryz.prog 13 #[v, va] w fun e w' => e = .returned (.tuple #[.agg #[.slice none 0 0, .slice none 0 0], .int .i64 0, .int .i64 (putC s l)]) ∧ Bl w w' := by
  have CK := Lib.hid (fun W (hh : Bl w W) => checkS_c s v hI W (hE.of_bl hh) (hM.of_bl hh) (hS.of_bl hh))
  obtain ⟨ve, vr, rfl, hEn, hRd⟩ := hS
  obtain ⟨ao, cap, rfl, hcap, -⟩ := hEn
  obtain ⟨ar, cr, rfl, hcr, -⟩ := hRd
  have HA := Lib.hid hA
  obtain ⟨aa, ca, rfl, hca, hA⟩ := hA
  obtain ⟨C, hC⟩ : ∃ C, C = ckS s := ⟨_, rfl⟩
  rw [← hC] at CK
  have hp : putC s l = enC l := by unfold putC; rw [if_neg (by rw [hc]; simp), if_neg h12]
  rw [hp]
  have HAA := Lib.hid hA
  have HZ := Lib.hid (fun (h : ∀ j (hj : j < l.length), chkE l[j] = 0) => he (enC_none h))
  obtain ⟨C3, hC3⟩ : ∃ C3, enC l = C3 := ⟨_, rfl⟩
  have HC3 := Lib.hid hC3
  rw [hC3] at he ⊢
  clear hp hC3
  have h12' : ¬ (12 : Int) < (l.length : Int) := by omega
  rw [hc] at hC
  subst hC
  have CC0 := fun (x : Ent) W (hh : Bl w W) => chkE_c x W (hE.of_bl hh) (hM.of_bl hh)
  unfold enV at CC0
  have CC := Lib.hid CC0
  clear CC0 hA hc
  have hq0 : ((w.alloc (.cells #[.slice ao s.1.length cap, .slice ar s.2.length cr] 25)).alloc (.cells #[.slice none 0 0, .slice none 0 0] 25)).heap[w.heap.size + 1]? = some (.cells #[.slice none 0 0, .slice none 0 0] 25) := by
    have := heap_alloc_new (w.alloc (.cells #[.slice ao s.1.length cap, .slice ar s.2.length cr] 25)) (.cells #[.slice none 0 0, .slice none 0 0] 25)
    simpa using this
  go_enter Tryz.func13, Tryz.ntmps13
  go_wp2_with (go_at_call 11; (with_reducible refine (CK.out _ (by repeat (first | exact Bl.refl _ | refine Bl.drew ?_ | refine Bl.alloc ?_ _))).mono ?_); rintro e w1 ⟨rfl, hb1⟩; have hW1 : Bl w w1 := Bl.trans (by repeat (first | exact Bl.refl _ | refine Bl.drew ?_ | refine Bl.alloc ?_ _)) hb1; have hq1 := keep_bl hq0 hb1; obtain ⟨lq, q0, q1⟩ := keep_cells hq1; have f0 := frozen_of_row (j := 0) hq1; have f1 := frozen_of_row (j := 1) hq1)
  have HQ := Lib.hid hq1
  go_loopw [7, 8] (fun c i wr => ∃ k : Nat, k ≤ l.length ∧ i = .int .i64 k ∧ Bl w1 wr ∧ ((c = .int .i64 0 ∧ Hid (∀ j (hj : j < l.length), j < k → chkE l[j] = 0)) ∨ c = .int .i64 C3)) (fun _ i _ => l.length - (intOf i).toNat)
  case atStart => exact ⟨0, Nat.zero_le _, rfl, Bl.refl _, .inl ⟨rfl, Lib.hid (fun j _ h => by omega)⟩⟩
  case round =>
    obtain ⟨k, hk, rfl, hbl, hd⟩ := hrel
    rcases hd with ⟨rfl, HP⟩ | rfl
    · have hlt : k < l.length := by
        rcases Nat.lt_or_ge k l.length with h | h
        · exact h
        · exact (HZ.out (fun j hj => HP.out j hj (by omega))).elim
      have hww := hW1.trans hbl
      obtain ⟨g, o, hao, hg, h1, h2, h3, h4, h5⟩ := HAA.out k hlt
      subst hao
      have x1 := (hww.cells.1 g _ hg).trans h1
      have x2 := (hww.cells.1 g _ hg).trans h2
      have x3 := (hww.cells.1 g _ hg).trans h3
      have x4 := (hww.cells.1 g _ hg).trans h4
      have x5 := (hww.cells.1 g _ hg).trans h5
      clear h1 h2 h3 h4 h5
      by_cases hz : chkE l[k] = 0
      · have HD := Lib.hid hz
        go_wp2_with (go_at_call 31; (with_reducible refine (CC.out l[k] _ hww).mono ?_); rintro e w2 ⟨rfl, hb2⟩)
        go_roundw
        case rel =>
          refine ⟨k + 1, by omega, by go_num, hbl.trans hb2, .inl ⟨rfl, Lib.hid (fun j hj hjk => ?_)⟩⟩
          by_cases e : j = k
          · subst e; exact HD.out
          · exact HP.out j hj (by omega)
        case measure => simp [intOf]; omega
      · have HD := Lib.hid hz
        clear hz
        go_wp2_with (go_at_call 31; (with_reducible refine (CC.out l[k] _ hww).mono ?_); rintro e w2 ⟨rfl, hb2⟩)
        go_roundw
        case rel => exact ⟨k + 1, by omega, by go_num, hbl.trans hb2, .inr (by rw [← HC3.out, enC_first hlt HP.out HD.out])⟩
        case measure => simp [intOf]; omega
    · have hww := hW1.trans hbl
      have hq2 := keep_bl HQ.out hbl
      obtain ⟨lq2, q20, q21⟩ := keep_cells hq2
      have g0 := frozen_of_row (j := 0) hq2
      have g1 := frozen_of_row (j := 1) hq2
      have HQ := Lib.hid hq2
      go_wp2
      all_goals
        refine bodyPost_ret (results_cell3 rfl _ _ (w.heap.size + 1) 25 #[.slice none 0 0, .slice none 0 0] (0, 0) _ rfl (set2 HQ.out hww (by omega)).1 Tryz.underlying25 rfl Tryz.infoShf) rfl ?_
        exact ⟨rfl, (set2 HQ.out hww (by omega)).2.1⟩
theorem Put_bad (s : Shf) (v va : Value) (l : List Ent) (hI : ∀ x ∈ s.1, (eI x).length ≤ 9223372036854775807) (hl : l.length ≤ 9223372036854775807) (hc : putC s l ≠ 0) (w : World) (hE : ES w) (hM : ML w) (hS : ShS w v s) (hA : EnS w va l) :
    Calls Tryz.prog 13 #[v, va] w fun e w' => e = .returned (.tuple #[.agg #[.slice none 0 0, .slice none 0 0], .int .i64 0, .int .i64 (putC s l)]) ∧ Bl w w' := by
  by_cases h1 : ckS s = 0
  · by_cases h2 : 12 < l.length
    · exact Put_bad2 s v va l hI hl h1 h2 w hE hM hS hA
    · exact Put_bad3 s v va l hI hl h1 h2 (by intro h; apply hc; unfold putC; rw [if_neg (by rw [h1]; simp), if_neg h2, h]) w hE hM hS hA
  · exact Put_bad1 s v va l hI hl h1 w hE hM hS hA
end Go.Proofs.YthnpljkekhieiaaGreatDoor

/- Shelves: Mark. -/
import Derived.Test.YthnpljkekhieiaaGreatDoorGrpU
namespace Go.Proofs.YthnpljkekhieiaaGreatDoor
open Go.RowKit

theorem below_up {w a b : World} {base : Nat} (h : Bl w a) (k : Below base a b) (hb : w.heap.size ≤ base) : Bl w b := Below.trans h (Below.mono k hb)
theorem ins_blk {w : World} {n : Nat} {o : Obj} : ((w.drewN n).alloc o).heap[w.heap.size]? = some o := heap_alloc_new (w.drewN n) o
theorem bsT_le (l : List Nm) (x : Nm) : bsT l x ≤ l.length := bsGo_le _ _ _ _ _ (Nat.zero_le _) (Nat.le_refl _)
theorem fnT_lt {l : List Nm} {x : Nm} (h : fnT l x = true) : bsT l x < l.length := (of_decide_eq_true h).1
theorem mark_fin {w w3 : World} {base b : Nat} {L : List Ent} {rd : List Nm} {ve v3 vr : Value} (hb : w3.heap[b]? = some (.cells #[ve, vr] 57)) (hE : EnO w3 base ve L) (hR : StO w3 base v3 rd) (hbb : base ≤ b) (hB : Below base w w3) (hbw : base ≤ w.heap.size) :
    (w3.setCell ⟨b, 1, none⟩ v3).heap[b]? = some (.cells #[ve, v3] 57) ∧ EnO (w3.setCell ⟨b, 1, none⟩ v3) base ve L ∧ StO (w3.setCell ⟨b, 1, none⟩ v3) base v3 rd ∧ Below base w (w3.setCell ⟨b, 1, none⟩ v3) := by
  obtain ⟨h1, h2, h3, h4⟩ := kp_set1 hb hE hR hbb (Nat.le_trans hbw (Below.size hB))
  exact ⟨h1, h2, h3, Below.trans hB h4⟩
theorem mark_row {w W w3 : World} {base b : Nat} {es : List Ent} {rd : List Nm} {ve vr : Value} (hb : w.heap[b]? = some (.cells #[ve, vr] 57)) (hE : EnO w base ve es) (hR : StO w base vr rd) (hbw : base ≤ w.heap.size) (hg : W.grownBy w3 vr.ownBlock) (hW : Bl w W) :
    w3.heap[b]? = some (.cells #[ve, vr] 57) ∧ EnO w3 base ve es ∧ Below base w w3 := by
  have hb' := (Below.block hW b (Array.getElem?_eq_some_iff.1 hb).1).trans hb
  obtain ⟨h1, h2, h3⟩ := kp_gr2 hb' (hE.of_bl hW) (hR.of_bl hW) hg (Nat.le_trans hbw (Below.size hW))
  exact ⟨h1, h2, Below.trans (Below.mono hW hbw) h3⟩
set_option maxRecDepth 100000 in
set_option maxHeartbeats 4000000 in
theorem Mark_bad1 (s : Shf) (v : Value) (i : Nm) (hI : ∀ x ∈ s.1, (eI x).length ≤ 9223372036854775807) (b : Bool) (hc : ckS s ≠ 0) (w : World) (hE : ES w) (hM : ML w) (hS : ShS w v s) :
    Calls Tryz.prog 8 #[v, .string ⟨i.toArray⟩, .bool b] w fun e w' => e = .returned (.tuple #[.agg #[.slice none 0 0, .slice none 0 0], .int .i64 (ckS s)]) ∧ Bl w w' := by
  have CK := Lib.hid (fun W (hh : Bl w W) => checkS_c s v hI W (hE.of_bl hh) (hM.of_bl hh) (hS.of_bl hh))
  obtain ⟨C, hC⟩ : ∃ C, C = ckS s := ⟨_, rfl⟩
  rw [← hC] at CK hc ⊢
  clear hC
  obtain ⟨ve, vr, rfl, hEn, hRd⟩ := hS
  obtain ⟨ao, cap, rfl, hcap, -⟩ := hEn
  obtain ⟨ar, cr, rfl, hcr, -⟩ := hRd
  have hq0 : ((w.alloc (.cells #[.slice ao s.1.length cap, .slice ar s.2.length cr] 25)).alloc (.cells #[.slice none 0 0, .slice none 0 0] 25)).heap[w.heap.size + 1]? = some (.cells #[.slice none 0 0, .slice none 0 0] 25) := by
    have := heap_alloc_new (w.alloc (.cells #[.slice ao s.1.length cap, .slice ar s.2.length cr] 25)) (.cells #[.slice none 0 0, .slice none 0 0] 25)
    simpa using this
  have hp0 := keep_bl (heap_alloc_new w (.cells #[.slice ao s.1.length cap, .slice ar s.2.length cr] 25)) ((Bl.refl _).alloc (.cells #[.slice none 0 0, .slice none 0 0] 25))
  clear hE hM
  go_enter Tryz.func8, Tryz.ntmps8
  go_wp2_with (go_at_call 11; (with_reducible refine (CK.out _ (by repeat (first | exact Bl.refl _ | refine Bl.drew ?_ | refine Bl.drewN ?_ _ | refine Bl.alloc ?_ _))).mono ?_); rintro e w1 ⟨rfl, hb1⟩; have hW1 : Bl w w1 := Bl.trans (by repeat (first | exact Bl.refl _ | refine Bl.drew ?_ | refine Bl.drewN ?_ _ | refine Bl.alloc ?_ _)) hb1; have hq1 := keep_bl hq0 hb1; obtain ⟨lp, p0, p1⟩ := keep_cells (keep_bl hp0 hb1); obtain ⟨lq, q0, q1⟩ := keep_cells hq1; have f0 := frozen_of_row (j := 0) hq1; have f1 := frozen_of_row (j := 1) hq1)
  refine bodyPost_ret (results_cell2 rfl _ _ (w.heap.size + 1) 25 #[.slice none 0 0, .slice none 0 0] (0, 0) _ rfl (set2 hq1 hW1 (by omega)).1 Tryz.underlying25 rfl Tryz.infoShf) rfl ?_
  exact ⟨rfl, (set2 hq1 hW1 (by omega)).2.1⟩
set_option maxRecDepth 100000 in
set_option maxHeartbeats 4000000 in
theorem Mark_bad2 (s : Shf) (v : Value) (i : Nm) (hI : ∀ x ∈ s.1, (eI x).length ≤ 9223372036854775807) (b : Bool) (hck : ckS s = 0) (hp : plE s.1 i = none) (w : World) (hE : ES w) (hM : ML w) (hS : ShS w v s) :
    Calls Tryz.prog 8 #[v, .string ⟨i.toArray⟩, .bool b] w fun e w' => e = .returned (.tuple #[.agg #[.slice none 0 0, .slice none 0 0], .int .i64 5]) ∧ Bl w w' := by
  have CK := Lib.hid (fun W (hh : Bl w W) => checkS_c s v hI W (hE.of_bl hh) (hM.of_bl hh) (hS.of_bl hh))
  rw [hck] at CK
  have hRs := (ckS_iff s).1 hck
  obtain ⟨hs20, hs40, -, -, -⟩ := hRs
  have OW := Lib.hid (fun W (hh : Bl w W) => own_c s v (by omega) (by omega) W (hS.of_bl hh))
  have hpl := plI_none hp
  obtain ⟨ve, vr, rfl, hEn, hRd⟩ := hS
  obtain ⟨ao, cap, rfl, hcap, -⟩ := hEn
  obtain ⟨ar, cr, rfl, hcr, -⟩ := hRd
  have hq0 : ((w.alloc (.cells #[.slice ao s.1.length cap, .slice ar s.2.length cr] 25)).alloc (.cells #[.slice none 0 0, .slice none 0 0] 25)).heap[w.heap.size + 1]? = some (.cells #[.slice none 0 0, .slice none 0 0] 25) := by
    have := heap_alloc_new (w.alloc (.cells #[.slice ao s.1.length cap, .slice ar s.2.length cr] 25)) (.cells #[.slice none 0 0, .slice none 0 0] 25)
    simpa using this
  have hp0 := keep_bl (heap_alloc_new w (.cells #[.slice ao s.1.length cap, .slice ar s.2.length cr] 25)) ((Bl.refl _).alloc (.cells #[.slice none 0 0, .slice none 0 0] 25))
  clear hE hM
  go_enter Tryz.func8, Tryz.ntmps8
  go_wp2_with (first | (go_at_call 11; (with_reducible refine (CK.out _ (by repeat (first | exact Bl.refl _ | refine Bl.drew ?_ | refine Bl.drewN ?_ _ | refine Bl.alloc ?_ _))).mono ?_); rintro e w1 ⟨rfl, hb1⟩; have hW1 : Bl w w1 := Bl.trans (by repeat (first | exact Bl.refl _ | refine Bl.drew ?_ | refine Bl.drewN ?_ _ | refine Bl.alloc ?_ _)) hb1; have hq1 := keep_bl hq0 hb1; obtain ⟨lp, p0, p1⟩ := keep_cells (keep_bl hp0 hb1); obtain ⟨lq, q0, q1⟩ := keep_cells hq1; have f0 := frozen_of_row (j := 0) hq1; have f1 := frozen_of_row (j := 1) hq1) | (go_at_call 24; (with_reducible refine (OW.out _ hW1).mono ?_); rintro e w3 ⟨b3, rfl, ⟨ve3, vr3, hb3, hbb3, hE3, hR3⟩, hbl3⟩; have hW3 := hW1.trans hbl3; have PC := Lib.hid (fun W (hh : Bl w3 W) => place_c s.1 ve3 vr3 b3 i (by omega) W (keep_bl hb3 hh) (hE3.ens.of_bl hh)); have BC := Lib.hid (fun W (hh : Bl w3 W) => bst_c s.2 vr3 i (by omega) W (hR3.sts.of_bl hh)); rw [hpl] at PC; have HE3 := Lib.hid hE3; have HR3 := Lib.hid hR3; obtain ⟨ae, ce, rfl, -⟩ := own_shp hE3; obtain ⟨at3, ct3, rfl, hct3⟩ := own_shp hR3; clear hE3 hR3; have hq3 := keep_bl hq1 hbl3) | (go_at_call 25; (with_reducible refine (PC.out _ (by repeat (first | exact Bl.refl _ | refine Bl.drew ?_ | refine Bl.drewN ?_ _ | refine Bl.alloc ?_ _))).mono ?_); rintro e w4 ⟨rfl, hb4⟩; have hq4 := keep_bl hq3 hb4; have hW4 := hW3.trans hb4; obtain ⟨lq4, r0, r1⟩ := keep_cells hq4; have g0 := frozen_of_row (j := 0) hq4; have g1 := frozen_of_row (j := 1) hq4; obtain ⟨lk4, k0, k1⟩ := keep_cells (keep_bl hb3 hb4)))
  refine bodyPost_ret (results_cell2 rfl _ _ (w.heap.size + 1) 25 #[.slice none 0 0, .slice none 0 0] (0, 0) _ rfl (set2 hq4 hW4 (by omega)).1 Tryz.underlying25 rfl Tryz.infoShf) rfl ?_
  exact ⟨rfl, (set2 hq4 hW4 (by omega)).2.1⟩
set_option maxRecDepth 100000 in
set_option maxHeartbeats 4000000 in
theorem Mark_bad3 (s : Shf) (v : Value) (i : Nm) (hI : ∀ x ∈ s.1, (eI x).length ≤ 9223372036854775807) (k : Nat) (hck : ckS s = 0) (hp : plE s.1 i = some k) (hfn : fnT s.2 i = false) (hf : s.2.length = 40) (w : World) (hE : ES w) (hM : ML w) (hS : ShS w v s) :
    Calls Tryz.prog 8 #[v, .string ⟨i.toArray⟩, .bool true] w fun e w' => e = .returned (.tuple #[.agg #[.slice none 0 0, .slice none 0 0], .int .i64 2]) ∧ Bl w w' := by
  have CK := Lib.hid (fun W (hh : Bl w W) => checkS_c s v hI W (hE.of_bl hh) (hM.of_bl hh) (hS.of_bl hh))
  rw [hck] at CK
  have hRs := (ckS_iff s).1 hck
  obtain ⟨hs20, hs40, -, -, -⟩ := hRs
  have OW := Lib.hid (fun W (hh : Bl w W) => own_c s v (by omega) (by omega) W (hS.of_bl hh))
  have hpl := plI_some hp
  have hneg : ¬ ((k : Int) < 0) := by omega
  have hbq : ((s.2.length : Int) == (40 : Int)) = true := by simp [hf]
  clear hf
  obtain ⟨ve, vr, rfl, hEn, hRd⟩ := hS
  obtain ⟨ao, cap, rfl, hcap, -⟩ := hEn
  obtain ⟨ar, cr, rfl, hcr, -⟩ := hRd
  have hq0 : ((w.alloc (.cells #[.slice ao s.1.length cap, .slice ar s.2.length cr] 25)).alloc (.cells #[.slice none 0 0, .slice none 0 0] 25)).heap[w.heap.size + 1]? = some (.cells #[.slice none 0 0, .slice none 0 0] 25) := by
    have := heap_alloc_new (w.alloc (.cells #[.slice ao s.1.length cap, .slice ar s.2.length cr] 25)) (.cells #[.slice none 0 0, .slice none 0 0] 25)
    simpa using this
  have hp0 := keep_bl (heap_alloc_new w (.cells #[.slice ao s.1.length cap, .slice ar s.2.length cr] 25)) ((Bl.refl _).alloc (.cells #[.slice none 0 0, .slice none 0 0] 25))
  clear hE hM
  go_enter Tryz.func8, Tryz.ntmps8
  go_wp2_with (first | (go_at_call 11; (with_reducible refine (CK.out _ (by repeat (first | exact Bl.refl _ | refine Bl.drew ?_ | refine Bl.drewN ?_ _ | refine Bl.alloc ?_ _))).mono ?_); rintro e w1 ⟨rfl, hb1⟩; have hW1 : Bl w w1 := Bl.trans (by repeat (first | exact Bl.refl _ | refine Bl.drew ?_ | refine Bl.drewN ?_ _ | refine Bl.alloc ?_ _)) hb1; have hq1 := keep_bl hq0 hb1; obtain ⟨lp, p0, p1⟩ := keep_cells (keep_bl hp0 hb1); obtain ⟨lq, q0, q1⟩ := keep_cells hq1; have f0 := frozen_of_row (j := 0) hq1; have f1 := frozen_of_row (j := 1) hq1) | (go_at_call 24; (with_reducible refine (OW.out _ hW1).mono ?_); rintro e w3 ⟨b3, rfl, ⟨ve3, vr3, hb3, hbb3, hE3, hR3⟩, hbl3⟩; have hW3 := hW1.trans hbl3; have PC := Lib.hid (fun W (hh : Bl w3 W) => place_c s.1 ve3 vr3 b3 i (by omega) W (keep_bl hb3 hh) (hE3.ens.of_bl hh)); have BC := Lib.hid (fun W (hh : Bl w3 W) => bst_c s.2 vr3 i (by omega) W (hR3.sts.of_bl hh)); rw [hpl] at PC; rw [hfn] at BC; have HE3 := Lib.hid hE3; have HR3 := Lib.hid hR3; obtain ⟨ae, ce, rfl, -⟩ := own_shp hE3; obtain ⟨at3, ct3, rfl, hct3⟩ := own_shp hR3; clear hE3 hR3; have hq3 := keep_bl hq1 hbl3) | (go_at_call 25; (with_reducible refine (PC.out _ (by repeat (first | exact Bl.refl _ | refine Bl.drew ?_ | refine Bl.drewN ?_ _ | refine Bl.alloc ?_ _))).mono ?_); rintro e w4 ⟨rfl, hb4⟩; have hq4 := keep_bl hq3 hb4; have hW4 := hW3.trans hb4; obtain ⟨lq4, r0, r1⟩ := keep_cells hq4; have g0 := frozen_of_row (j := 0) hq4; have g1 := frozen_of_row (j := 1) hq4; obtain ⟨lk4, k0, k1⟩ := keep_cells (keep_bl hb3 hb4)) | (go_at_call 26; (with_reducible refine (BC.out _ (by repeat (first | exact hb4 | refine Bl.drew ?_ | refine Bl.drewN ?_ _ | refine Bl.alloc ?_ _))).mono ?_); rintro e w5 ⟨rfl, nq, rfl⟩))
  refine bodyPost_ret (results_cell2 rfl _ _ (w.heap.size + 1) 25 #[.slice none 0 0, .slice none 0 0] (0, 0) _ rfl (set2 (keep_bl hq4 ((Bl.refl _).drewN nq)) (hW4.drewN nq) (by omega)).1 Tryz.underlying25 rfl Tryz.infoShf) rfl ?_
  exact ⟨rfl, (set2 (keep_bl hq4 ((Bl.refl _).drewN nq)) (hW4.drewN nq) (by omega)).2.1⟩
set_option maxRecDepth 100000 in
set_option maxHeartbeats 4000000 in
theorem Mark_same1 (s : Shf) (v : Value) (i : Nm) (hI : ∀ x ∈ s.1, (eI x).length ≤ 9223372036854775807) (k : Nat) (hck : ckS s = 0) (hp : plE s.1 i = some k) (hfn : fnT s.2 i = true) (w : World) (hE : ES w) (hM : ML w) (hS : ShS w v s) :
    Calls Tryz.prog 8 #[v, .string ⟨i.toArray⟩, .bool true] w fun e w' => ∃ sv, e = .returned (.tuple #[sv, .int .i64 0]) ∧ ShS w' sv (s.1, s.2) ∧ Bl w w' := by
  have CK := Lib.hid (fun W (hh : Bl w W) => checkS_c s v hI W (hE.of_bl hh) (hM.of_bl hh) (hS.of_bl hh))
  rw [hck] at CK
  have hRs := (ckS_iff s).1 hck
  obtain ⟨hs20, hs40, -, -, -⟩ := hRs
  have OW := Lib.hid (fun W (hh : Bl w W) => own_c s v (by omega) (by omega) W (hS.of_bl hh))
  have hpl := plI_some hp
  have hneg : ¬ ((k : Int) < 0) := by omega
  obtain ⟨ve, vr, rfl, hEn, hRd⟩ := hS
  obtain ⟨ao, cap, rfl, hcap, -⟩ := hEn
  obtain ⟨ar, cr, rfl, hcr, -⟩ := hRd
  have hq0 : ((w.alloc (.cells #[.slice ao s.1.length cap, .slice ar s.2.length cr] 25)).alloc (.cells #[.slice none 0 0, .slice none 0 0] 25)).heap[w.heap.size + 1]? = some (.cells #[.slice none 0 0, .slice none 0 0] 25) := by
    have := heap_alloc_new (w.alloc (.cells #[.slice ao s.1.length cap, .slice ar s.2.length cr] 25)) (.cells #[.slice none 0 0, .slice none 0 0] 25)
    simpa using this
  have hp0 := keep_bl (heap_alloc_new w (.cells #[.slice ao s.1.length cap, .slice ar s.2.length cr] 25)) ((Bl.refl _).alloc (.cells #[.slice none 0 0, .slice none 0 0] 25))
  clear hE hM
  go_enter Tryz.func8, Tryz.ntmps8
  go_wp2_with (first | (go_at_call 11; (with_reducible refine (CK.out _ (by repeat (first | exact Bl.refl _ | refine Bl.drew ?_ | refine Bl.drewN ?_ _ | refine Bl.alloc ?_ _))).mono ?_); rintro e w1 ⟨rfl, hb1⟩; have hW1 : Bl w w1 := Bl.trans (by repeat (first | exact Bl.refl _ | refine Bl.drew ?_ | refine Bl.drewN ?_ _ | refine Bl.alloc ?_ _)) hb1; have hq1 := keep_bl hq0 hb1; obtain ⟨lp, p0, p1⟩ := keep_cells (keep_bl hp0 hb1); obtain ⟨lq, q0, q1⟩ := keep_cells hq1; have f0 := frozen_of_row (j := 0) hq1; have f1 := frozen_of_row (j := 1) hq1) | (go_at_call 24; (with_reducible refine (OW.out _ hW1).mono ?_); rintro e w3 ⟨b3, rfl, ⟨ve3, vr3, hb3, hbb3, hE3, hR3⟩, hbl3⟩; have hW3 := hW1.trans hbl3; have PC := Lib.hid (fun W (hh : Bl w3 W) => place_c s.1 ve3 vr3 b3 i (by omega) W (keep_bl hb3 hh) (hE3.ens.of_bl hh)); have BC := Lib.hid (fun W (hh : Bl w3 W) => bst_c s.2 vr3 i (by omega) W (hR3.sts.of_bl hh)); rw [hpl] at PC; rw [hfn] at BC; have HE3 := Lib.hid hE3; have HR3 := Lib.hid hR3; obtain ⟨ae, ce, rfl, -⟩ := own_shp hE3; obtain ⟨at3, ct3, rfl, hct3⟩ := own_shp hR3; clear hE3 hR3; have hq3 := keep_bl hq1 hbl3) | (go_at_call 25; (with_reducible refine (PC.out _ (by repeat (first | exact Bl.refl _ | refine Bl.drew ?_ | refine Bl.drewN ?_ _ | refine Bl.alloc ?_ _))).mono ?_); rintro e w4 ⟨rfl, hb4⟩; have hq4 := keep_bl hq3 hb4; have hW4 := hW3.trans hb4; obtain ⟨lq4, r0, r1⟩ := keep_cells hq4; have g0 := frozen_of_row (j := 0) hq4; have g1 := frozen_of_row (j := 1) hq4; obtain ⟨lk4, k0, k1⟩ := keep_cells (keep_bl hb3 hb4)) | (go_at_call 26; (with_reducible refine (BC.out _ (by repeat (first | exact hb4 | refine Bl.drew ?_ | refine Bl.drewN ?_ _ | refine Bl.alloc ?_ _))).mono ?_); rintro e w5 ⟨rfl, nq, rfl⟩))
  have hq5 := keep_bl hq4 ((Bl.refl _).drewN nq)
  have hW5 := hW4.drewN nq
  refine bodyPost_ret (results_cell2 rfl _ _ (w.heap.size + 1) 25 #[.slice ae s.1.length ce, .slice at3 s.2.length ct3] (0, 0) _ rfl (set2 hq5 hW5 (by omega)).1 Tryz.underlying25 rfl Tryz.infoShf) rfl ?_
  have h2 := set2 (c := .slice ae s.1.length ce) (d := .slice at3 s.2.length ct3) hq5 hW5 (by omega)
  exact ⟨_, rfl, shelf_end ((HE3.out.of_bl hb4).of_bl ((Bl.refl _).drewN nq)) ((HR3.out.of_bl hb4).of_bl ((Bl.refl _).drewN nq)) h2.2.2 lq, h2.2.1⟩
set_option maxRecDepth 100000 in
set_option maxHeartbeats 4000000 in
theorem Mark_same2 (s : Shf) (v : Value) (i : Nm) (hI : ∀ x ∈ s.1, (eI x).length ≤ 9223372036854775807) (k : Nat) (hck : ckS s = 0) (hp : plE s.1 i = some k) (hfn : fnT s.2 i = false) (w : World) (hE : ES w) (hM : ML w) (hS : ShS w v s) :
    Calls Tryz.prog 8 #[v, .string ⟨i.toArray⟩, .bool false] w fun e w' => ∃ sv, e = .returned (.tuple #[sv, .int .i64 0]) ∧ ShS w' sv (s.1, s.2) ∧ Bl w w' := by
  have CK := Lib.hid (fun W (hh : Bl w W) => checkS_c s v hI W (hE.of_bl hh) (hM.of_bl hh) (hS.of_bl hh))
  rw [hck] at CK
  have hRs := (ckS_iff s).1 hck
  obtain ⟨hs20, hs40, -, -, -⟩ := hRs
  have OW := Lib.hid (fun W (hh : Bl w W) => own_c s v (by omega) (by omega) W (hS.of_bl hh))
  have hpl := plI_some hp
  have hneg : ¬ ((k : Int) < 0) := by omega
  obtain ⟨ve, vr, rfl, hEn, hRd⟩ := hS
  obtain ⟨ao, cap, rfl, hcap, -⟩ := hEn
  obtain ⟨ar, cr, rfl, hcr, -⟩ := hRd
  have hq0 : ((w.alloc (.cells #[.slice ao s.1.length cap, .slice ar s.2.length cr] 25)).alloc (.cells #[.slice none 0 0, .slice none 0 0] 25)).heap[w.heap.size + 1]? = some (.cells #[.slice none 0 0, .slice none 0 0] 25) := by
    have := heap_alloc_new (w.alloc (.cells #[.slice ao s.1.length cap, .slice ar s.2.length cr] 25)) (.cells #[.slice none 0 0, .slice none 0 0] 25)
    simpa using this
  have hp0 := keep_bl (heap_alloc_new w (.cells #[.slice ao s.1.length cap, .slice ar s.2.length cr] 25)) ((Bl.refl _).alloc (.cells #[.slice none 0 0, .slice none 0 0] 25))
  clear hE hM
  go_enter Tryz.func8, Tryz.ntmps8
  go_wp2_with (first | (go_at_call 11; (with_reducible refine (CK.out _ (by repeat (first | exact Bl.refl _ | refine Bl.drew ?_ | refine Bl.drewN ?_ _ | refine Bl.alloc ?_ _))).mono ?_); rintro e w1 ⟨rfl, hb1⟩; have hW1 : Bl w w1 := Bl.trans (by repeat (first | exact Bl.refl _ | refine Bl.drew ?_ | refine Bl.drewN ?_ _ | refine Bl.alloc ?_ _)) hb1; have hq1 := keep_bl hq0 hb1; obtain ⟨lp, p0, p1⟩ := keep_cells (keep_bl hp0 hb1); obtain ⟨lq, q0, q1⟩ := keep_cells hq1; have f0 := frozen_of_row (j := 0) hq1; have f1 := frozen_of_row (j := 1) hq1) | (go_at_call 24; (with_reducible refine (OW.out _ hW1).mono ?_); rintro e w3 ⟨b3, rfl, ⟨ve3, vr3, hb3, hbb3, hE3, hR3⟩, hbl3⟩; have hW3 := hW1.trans hbl3; have PC := Lib.hid (fun W (hh : Bl w3 W) => place_c s.1 ve3 vr3 b3 i (by omega) W (keep_bl hb3 hh) (hE3.ens.of_bl hh)); have BC := Lib.hid (fun W (hh : Bl w3 W) => bst_c s.2 vr3 i (by omega) W (hR3.sts.of_bl hh)); rw [hpl] at PC; rw [hfn] at BC; have HE3 := Lib.hid hE3; have HR3 := Lib.hid hR3; obtain ⟨ae, ce, rfl, -⟩ := own_shp hE3; obtain ⟨at3, ct3, rfl, hct3⟩ := own_shp hR3; clear hE3 hR3; have hq3 := keep_bl hq1 hbl3) | (go_at_call 25; (with_reducible refine (PC.out _ (by repeat (first | exact Bl.refl _ | refine Bl.drew ?_ | refine Bl.drewN ?_ _ | refine Bl.alloc ?_ _))).mono ?_); rintro e w4 ⟨rfl, hb4⟩; have hq4 := keep_bl hq3 hb4; have hW4 := hW3.trans hb4; obtain ⟨lq4, r0, r1⟩ := keep_cells hq4; have g0 := frozen_of_row (j := 0) hq4; have g1 := frozen_of_row (j := 1) hq4; obtain ⟨lk4, k0, k1⟩ := keep_cells (keep_bl hb3 hb4)) | (go_at_call 26; (with_reducible refine (BC.out _ (by repeat (first | exact hb4 | refine Bl.drew ?_ | refine Bl.drewN ?_ _ | refine Bl.alloc ?_ _))).mono ?_); rintro e w5 ⟨rfl, nq, rfl⟩))
  have hq5 := keep_bl hq4 ((Bl.refl _).drewN nq)
  have hW5 := hW4.drewN nq
  refine bodyPost_ret (results_cell2 rfl _ _ (w.heap.size + 1) 25 #[.slice ae s.1.length ce, .slice at3 s.2.length ct3] (0, 0) _ rfl (set2 hq5 hW5 (by omega)).1 Tryz.underlying25 rfl Tryz.infoShf) rfl ?_
  have h2 := set2 (c := .slice ae s.1.length ce) (d := .slice at3 s.2.length ct3) hq5 hW5 (by omega)
  exact ⟨_, rfl, shelf_end ((HE3.out.of_bl hb4).of_bl ((Bl.refl _).drewN nq)) ((HR3.out.of_bl hb4).of_bl ((Bl.refl _).drewN nq)) h2.2.2 lq, h2.2.1⟩
set_option maxRecDepth 100000 in
set_option maxHeartbeats 4000000 in
theorem Mark_ins (s : Shf) (v : Value) (i : Nm) (hI : ∀ x ∈ s.1, (eI x).length ≤ 9223372036854775807) (k : Nat) (hck : ckS s = 0) (hp : plE s.1 i = some k) (hfn : fnT s.2 i = false) (hf : s.2.length ≠ 40) (w : World) (hE : ES w) (hM : ML w) (hS : ShS w v s) :
    Calls Tryz.prog 8 #[v, .string ⟨i.toArray⟩, .bool true] w fun e w' => ∃ sv, e = .returned (.tuple #[sv, .int .i64 0]) ∧ ShS w' sv (s.1, insA s.2 (bsT s.2 i) i) ∧ Bl w w' := by
  have CK := Lib.hid (fun W (hh : Bl w W) => checkS_c s v hI W (hE.of_bl hh) (hM.of_bl hh) (hS.of_bl hh))
  rw [hck] at CK
  have hRs := (ckS_iff s).1 hck
  obtain ⟨hs20, hs40, -, -, -⟩ := hRs
  have OW := Lib.hid (fun W (hh : Bl w W) => own_c s v (by omega) (by omega) W (hS.of_bl hh))
  have hpl := plI_some hp
  have hneg : ¬ ((k : Int) < 0) := by omega
  have hbq : ((s.2.length : Int) == (40 : Int)) = false := by simp; omega
  have hs2 : s.2.length ≤ 1000000 := by omega
  obtain ⟨ve, vr, rfl, hEn, hRd⟩ := hS
  obtain ⟨ao, cap, rfl, hcap, -⟩ := hEn
  obtain ⟨ar, cr, rfl, hcr, -⟩ := hRd
  have hq0 : ((w.alloc (.cells #[.slice ao s.1.length cap, .slice ar s.2.length cr] 25)).alloc (.cells #[.slice none 0 0, .slice none 0 0] 25)).heap[w.heap.size + 1]? = some (.cells #[.slice none 0 0, .slice none 0 0] 25) := by
    have := heap_alloc_new (w.alloc (.cells #[.slice ao s.1.length cap, .slice ar s.2.length cr] 25)) (.cells #[.slice none 0 0, .slice none 0 0] 25)
    simpa using this
  have hp0 := keep_bl (heap_alloc_new w (.cells #[.slice ao s.1.length cap, .slice ar s.2.length cr] 25)) ((Bl.refl _).alloc (.cells #[.slice none 0 0, .slice none 0 0] 25))
  clear hE hM
  go_enter Tryz.func8, Tryz.ntmps8
  go_wp2_with (first | (go_at_call 11; (with_reducible refine (CK.out _ (by repeat (first | exact Bl.refl _ | refine Bl.drew ?_ | refine Bl.drewN ?_ _ | refine Bl.alloc ?_ _))).mono ?_); rintro e w1 ⟨rfl, hb1⟩; have hW1 : Bl w w1 := Bl.trans (by repeat (first | exact Bl.refl _ | refine Bl.drew ?_ | refine Bl.drewN ?_ _ | refine Bl.alloc ?_ _)) hb1; have hq1 := keep_bl hq0 hb1; obtain ⟨lp, p0, p1⟩ := keep_cells (keep_bl hp0 hb1); obtain ⟨lq, q0, q1⟩ := keep_cells hq1; have f0 := frozen_of_row (j := 0) hq1; have f1 := frozen_of_row (j := 1) hq1) | (go_at_call 24; (with_reducible refine (OW.out _ hW1).mono ?_); rintro e w3 ⟨b3, rfl, ⟨ve3, vr3, hb3, hbb3, hE3, hR3⟩, hbl3⟩; have hW3 := hW1.trans hbl3; have PC := Lib.hid (fun W (hh : Bl w3 W) => place_c s.1 ve3 vr3 b3 i (by omega) W (keep_bl hb3 hh) (hE3.ens.of_bl hh)); have BC := Lib.hid (fun W (hh : Bl w3 W) => bst_c s.2 vr3 i (by omega) W (hR3.sts.of_bl hh)); rw [hpl] at PC; rw [hfn] at BC; have HE3 := Lib.hid hE3; have HR3 := Lib.hid hR3; obtain ⟨ae, ce, rfl, -⟩ := own_shp hE3; obtain ⟨at3, ct3, rfl, hct3⟩ := own_shp hR3; clear hE3 hR3; have hq3 := keep_bl hq1 hbl3) | (go_at_call 25; (with_reducible refine (PC.out _ (by repeat (first | exact Bl.refl _ | refine Bl.drew ?_ | refine Bl.drewN ?_ _ | refine Bl.alloc ?_ _))).mono ?_); rintro e w4 ⟨rfl, hb4⟩; have hq4 := keep_bl hq3 hb4; have hW4 := hW3.trans hb4; obtain ⟨lq4, r0, r1⟩ := keep_cells hq4; have g0 := frozen_of_row (j := 0) hq4; have g1 := frozen_of_row (j := 1) hq4; obtain ⟨lk4, k0, k1⟩ := keep_cells (keep_bl hb3 hb4)) | (go_at_call 26; (with_reducible refine (BC.out _ (by repeat (first | exact hb4 | refine Bl.drew ?_ | refine Bl.drewN ?_ _ | refine Bl.alloc ?_ _))).mono ?_); rintro e w5 ⟨rfl, nq, rfl⟩) | (go_at_call 27; (with_reducible refine (insS_c w1.heap.size s.2 i (.slice at3 s.2.length ct3) w4.heap.size (bsT s.2 i) (bsT_le _ _) hs2 _ ?_ ?_ ?_ ?_).mono ?_); (exact HR3.out.of_bl (by repeat (first | exact hb4 | refine Bl.drew ?_ | refine Bl.drewN ?_ _ | refine Bl.alloc ?_ _))); (exact ins_blk); (exact own_past HR3.out hb4); (exact Nat.le_trans (Below.size hbl3) (Below.size (show Bl w3 _ from (by repeat (first | exact hb4 | refine Bl.drew ?_ | refine Bl.drewN ?_ _ | refine Bl.alloc ?_ _))))); rintro e w6 ⟨v6, rfl, hO6, hg6⟩; obtain ⟨kb6, hE6, hB6⟩ := mark_row hb3 HE3.out HR3.out (Below.size hbl3) hg6 (by repeat (first | exact hb4 | refine Bl.drew ?_ | refine Bl.drewN ?_ _ | refine Bl.alloc ?_ _)); obtain ⟨lk6, c0, c1⟩ := keep_cells kb6; have d1 := frozen_of_row (j := 1) kb6; obtain ⟨ao6, cap6, rfl, -⟩ := own_shp hO6; obtain ⟨kb7, hE7, hO7, hB7⟩ := mark_fin kb6 hE6 hO6 hbb3 hB6 (Below.size hbl3); have hq6 := (Below.block hB6 _ lq).trans hq3; obtain ⟨lq6, t0, t1⟩ := keep_cells hq6; have u0 := frozen_of_row (j := 0) hq6; have u1 := frozen_of_row (j := 1) hq6; have hqb : ¬ (w.heap.size + 1 = b3) := (by omega); have hqb2 : ¬ (b3 = w.heap.size + 1) := (by omega); have hW7 := below_up hW3 hB7 (show w.heap.size ≤ w1.heap.size by omega); have hq7 := (Below.block hB7 _ lq).trans hq3; have HE7 := Lib.hid hE7; have HO7 := Lib.hid hO7; have HQ7 := Lib.hid hq7; clear hE7 hO7 hq7 kb7))
  refine bodyPost_ret (results_cell2 rfl _ _ (w.heap.size + 1) 25 #[.slice ae s.1.length ce, .slice ao6 (insA s.2 (bsT s.2 i) i).length cap6] (0, 0) _ rfl (set2 HQ7.out hW7 (by omega)).1 Tryz.underlying25 rfl Tryz.infoShf) rfl ?_
  have h2 := set2 (c := .slice ae s.1.length ce) (d := .slice ao6 (insA s.2 (bsT s.2 i) i).length cap6) HQ7.out hW7 (by omega)
  exact ⟨_, rfl, shelf_end HE7.out HO7.out h2.2.2 lq, h2.2.1⟩
set_option maxRecDepth 100000 in
set_option maxHeartbeats 4000000 in
theorem Mark_del (s : Shf) (v : Value) (i : Nm) (hI : ∀ x ∈ s.1, (eI x).length ≤ 9223372036854775807) (k : Nat) (hck : ckS s = 0) (hp : plE s.1 i = some k) (hfn : fnT s.2 i = true) (w : World) (hE : ES w) (hM : ML w) (hS : ShS w v s) :
    Calls Tryz.prog 8 #[v, .string ⟨i.toArray⟩, .bool false] w fun e w' => ∃ sv, e = .returned (.tuple #[sv, .int .i64 0]) ∧ ShS w' sv (s.1, delA s.2 (bsT s.2 i)) ∧ Bl w w' := by
  have CK := Lib.hid (fun W (hh : Bl w W) => checkS_c s v hI W (hE.of_bl hh) (hM.of_bl hh) (hS.of_bl hh))
  rw [hck] at CK
  have hRs := (ckS_iff s).1 hck
  obtain ⟨hs20, hs40, -, -, -⟩ := hRs
  have OW := Lib.hid (fun W (hh : Bl w W) => own_c s v (by omega) (by omega) W (hS.of_bl hh))
  have hpl := plI_some hp
  have hneg : ¬ ((k : Int) < 0) := by omega
  have hs2 : s.2.length ≤ 1000000 := by omega
  have hw1 : IntKind.i64.wrap ((bsT s.2 i : Int) + 1) = (bsT s.2 i : Int) + 1 := by have := bsT_le s.2 i; rw [IntKind.wrap_i64]; omega
  obtain ⟨ve, vr, rfl, hEn, hRd⟩ := hS
  obtain ⟨ao, cap, rfl, hcap, -⟩ := hEn
  obtain ⟨ar, cr, rfl, hcr, -⟩ := hRd
  have hq0 : ((w.alloc (.cells #[.slice ao s.1.length cap, .slice ar s.2.length cr] 25)).alloc (.cells #[.slice none 0 0, .slice none 0 0] 25)).heap[w.heap.size + 1]? = some (.cells #[.slice none 0 0, .slice none 0 0] 25) := by
    have := heap_alloc_new (w.alloc (.cells #[.slice ao s.1.length cap, .slice ar s.2.length cr] 25)) (.cells #[.slice none 0 0, .slice none 0 0] 25)
    simpa using this
  have hp0 := keep_bl (heap_alloc_new w (.cells #[.slice ao s.1.length cap, .slice ar s.2.length cr] 25)) ((Bl.refl _).alloc (.cells #[.slice none 0 0, .slice none 0 0] 25))
  clear hE hM
  go_enter Tryz.func8, Tryz.ntmps8
  go_wp2_with (first | (go_at_call 11; (with_reducible refine (CK.out _ (by repeat (first | exact Bl.refl _ | refine Bl.drew ?_ | refine Bl.drewN ?_ _ | refine Bl.alloc ?_ _))).mono ?_); rintro e w1 ⟨rfl, hb1⟩; have hW1 : Bl w w1 := Bl.trans (by repeat (first | exact Bl.refl _ | refine Bl.drew ?_ | refine Bl.drewN ?_ _ | refine Bl.alloc ?_ _)) hb1; have hq1 := keep_bl hq0 hb1; obtain ⟨lp, p0, p1⟩ := keep_cells (keep_bl hp0 hb1); obtain ⟨lq, q0, q1⟩ := keep_cells hq1; have f0 := frozen_of_row (j := 0) hq1; have f1 := frozen_of_row (j := 1) hq1) | (go_at_call 24; (with_reducible refine (OW.out _ hW1).mono ?_); rintro e w3 ⟨b3, rfl, ⟨ve3, vr3, hb3, hbb3, hE3, hR3⟩, hbl3⟩; have hW3 := hW1.trans hbl3; have PC := Lib.hid (fun W (hh : Bl w3 W) => place_c s.1 ve3 vr3 b3 i (by omega) W (keep_bl hb3 hh) (hE3.ens.of_bl hh)); have BC := Lib.hid (fun W (hh : Bl w3 W) => bst_c s.2 vr3 i (by omega) W (hR3.sts.of_bl hh)); rw [hpl] at PC; rw [hfn] at BC; have HE3 := Lib.hid hE3; have HR3 := Lib.hid hR3; obtain ⟨ae, ce, rfl, -⟩ := own_shp hE3; obtain ⟨at3, ct3, rfl, hct3⟩ := own_shp hR3; clear hE3 hR3; have hq3 := keep_bl hq1 hbl3) | (go_at_call 25; (with_reducible refine (PC.out _ (by repeat (first | exact Bl.refl _ | refine Bl.drew ?_ | refine Bl.drewN ?_ _ | refine Bl.alloc ?_ _))).mono ?_); rintro e w4 ⟨rfl, hb4⟩; have hq4 := keep_bl hq3 hb4; have hW4 := hW3.trans hb4; obtain ⟨lq4, r0, r1⟩ := keep_cells hq4; have g0 := frozen_of_row (j := 0) hq4; have g1 := frozen_of_row (j := 1) hq4; obtain ⟨lk4, k0, k1⟩ := keep_cells (keep_bl hb3 hb4)) | (go_at_call 26; (with_reducible refine (BC.out _ (by repeat (first | exact hb4 | refine Bl.drew ?_ | refine Bl.drewN ?_ _ | refine Bl.alloc ?_ _))).mono ?_); rintro e w5 ⟨rfl, nq, rfl⟩) | (go_at_call 28; (with_reducible refine (delS_c w1.heap.size s.2 (.slice at3 s.2.length ct3) (bsT s.2 i) (fnT_lt hfn) hs2 _ ?_).mono ?_); (exact HR3.out.of_bl (by repeat (first | exact hb4 | refine Bl.drew ?_ | refine Bl.drewN ?_ _ | refine Bl.alloc ?_ _))); rintro e w6 ⟨v6, rfl, hO6, -, hg6⟩; obtain ⟨kb6, hE6, hB6⟩ := mark_row hb3 HE3.out HR3.out (Below.size hbl3) hg6 (by repeat (first | exact hb4 | refine Bl.drew ?_ | refine Bl.drewN ?_ _ | refine Bl.alloc ?_ _)); obtain ⟨lk6, c0, c1⟩ := keep_cells kb6; have d1 := frozen_of_row (j := 1) kb6; obtain ⟨ao6, cap6, rfl, -⟩ := own_shp hO6; obtain ⟨kb7, hE7, hO7, hB7⟩ := mark_fin kb6 hE6 hO6 hbb3 hB6 (Below.size hbl3); have hq6 := (Below.block hB6 _ lq).trans hq3; obtain ⟨lq6, t0, t1⟩ := keep_cells hq6; have u0 := frozen_of_row (j := 0) hq6; have u1 := frozen_of_row (j := 1) hq6; have hqb : ¬ (w.heap.size + 1 = b3) := (by omega); have hqb2 : ¬ (b3 = w.heap.size + 1) := (by omega); have hW7 := below_up hW3 hB7 (show w.heap.size ≤ w1.heap.size by omega); have hq7 := (Below.block hB7 _ lq).trans hq3; have HE7 := Lib.hid hE7; have HO7 := Lib.hid hO7; have HQ7 := Lib.hid hq7; clear hE7 hO7 hq7 kb7))
  refine bodyPost_ret (results_cell2 rfl _ _ (w.heap.size + 1) 25 #[.slice ae s.1.length ce, .slice ao6 (delA s.2 (bsT s.2 i)).length cap6] (0, 0) _ rfl (set2 HQ7.out hW7 (by omega)).1 Tryz.underlying25 rfl Tryz.infoShf) rfl ?_
  have h2 := set2 (c := .slice ae s.1.length ce) (d := .slice ao6 (delA s.2 (bsT s.2 i)).length cap6) HQ7.out hW7 (by omega)
  exact ⟨_, rfl, shelf_end HE7.out HO7.out h2.2.2 lq, h2.2.1⟩
end Go.Proofs.YthnpljkekhieiaaGreatDoor

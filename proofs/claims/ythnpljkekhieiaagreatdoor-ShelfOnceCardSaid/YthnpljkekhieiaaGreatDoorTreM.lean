/- Trees: a token comes that opens. -/
import Derived.Test.YthnpljkekhieiaaGreatDoorTreL
import Derived.Deep.CutBlock
namespace Go.Proofs.YthnpljkekhieiaaGreatDoor
open Go.RowKit

/-- The token that came, in a block of its own. -/
def Bx (w : World) (q : Nat) (nm : Nm) (va : Value) : Prop := w.heap[q]? = some (.cells #[.int .i64 2, .string ⟨nm.toArray⟩, va, .string ⟨#[]⟩] 104 (0, 0))
theorem Bx.cells {w : World} {q : Nat} {nm : Nm} {va : Value} (h : Bx w q nm va) : w.cell? ⟨q, 0, none⟩ = some (.int .i64 2) ∧ w.cell? ⟨q, 1, none⟩ = some (.string ⟨nm.toArray⟩) ∧ w.cell? ⟨q, 2, none⟩ = some va ∧ w.cell? ⟨q, 3, none⟩ = some (.string ⟨#[]⟩) := by
  unfold Bx at h
  simp [World.cell?, h]
theorem Bx.lt {w : World} {q : Nat} {nm : Nm} {va : Value} (h : Bx w q nm va) : q < w.heap.size := (Array.getElem?_eq_some_iff.1 h).1
theorem Bx.of_bl {w w' : World} {q : Nat} {nm : Nm} {va : Value} (h : Bx w q nm va) (hb : Bl w w') : Bx w' q nm va := (Below.block hb q h.lt).trans h
theorem Bx.still {w w' : World} {P : Nat → Prop} {q : Nat} {nm : Nm} {va : Value} (h : Bx w q nm va) (hs : Still P w w') (hp : P q) : Bx w' q nm va := (hs.block q h.lt hp).trans h
/-- A node in a block of its own. -/
def Nx (w : World) (q : Nat) (nm : Nm) (va : Value) : Prop := w.heap[q]? = some (.cells #[.string ⟨nm.toArray⟩, va, .string ⟨#[]⟩, .slice none 0 0] 99 (0, 0))
theorem Nx.cells {w : World} {q : Nat} {nm : Nm} {va : Value} (h : Nx w q nm va) : w.cell? ⟨q, 0, none⟩ = some (.string ⟨nm.toArray⟩) ∧ w.cell? ⟨q, 1, none⟩ = some va ∧ w.cell? ⟨q, 2, none⟩ = some (.string ⟨#[]⟩) ∧ w.cell? ⟨q, 3, none⟩ = some (.slice none 0 0) := by
  unfold Nx at h
  simp [World.cell?, h]
theorem Tryz.infoSl : (Tryz.prog.info? 83).map (fun i => (i.zero, i.size, i.bytes)) = some (some (.slice none 0 0), 1, 24) := by kernel_rfl
/-- The builder's block where another row has grown. -/
theorem BdR.bkept {w w0 w1 : World} {base b : Nat} {P : Nat → Prop} {li : List (List Nd)} {x : List Nd} {op : List (Nm × List Atr)} {gn cn : Nat} {vo v : Value} {lv : List Value} {oe : List Oent} (h : BdR w base b P li x op gn cn vo lv v oe) {e : TypeId} {sz n : Nat} {u u' : Value} {ys : List Value} (ho : w.ownsRow base e sz u n ys) (he : e ≠ 110) (hb : Bl w w0) (hg : Grew w0 w1 u u') :
    w1.cell? ⟨b, 0, none⟩ = some (.slice (some ⟨gn, 0, none⟩) (lv.length + 1) cn) ∧ w1.cell? ⟨b, 1, none⟩ = some vo ∧ w1.frozen? ⟨b, 0, none⟩ = false ∧ w1.frozen? ⟨b, 1, none⟩ = false := by
  have hn : u.ownBlock ≠ some b := own_ty ho h.blk he
  exact BdR.setb ((((hg.of_bl hb).other b h.blt hn).trans h.blk))
theorem own_nb {w w1 : World} {base b : Nat} {P : Nat → Prop} {li : List (List Nd)} {x : List Nd} {op : List (Nm × List Atr)} {gn cn : Nat} {vo v : Value} {lv : List Value} {oe : List Oent} (h : BdR w base b P li x op gn cn vo lv v oe) {e : TypeId} {sz n g c : Nat} {u : Value} {ys zs : List Value} {m : Nat} (ho : w.ownsRow base e sz u n ys) (he : e ≠ 110)
    (hg : Grew w w1 u (.slice (some ⟨g, 0, none⟩) m c)) (hz : w1.ownsRow base e sz (.slice (some ⟨g, 0, none⟩) m c) m zs) : g ≠ b := by
  intro e2
  have hn : u.ownBlock ≠ some b := own_ty ho h.blk he
  exact own_ty hz ((hg.other b h.blt hn).trans h.blk) he (by rw [e2]; rfl)
/-- Behind close. -/
def R5 (w0 : World) (base b q : Nat) (S : St) (nm : Nm) (va : Value) (w : World) : Prop := ∃ P2, BdS w base b P2 S ∧ Below base w0 w ∧ Bx w q nm va
/-- Behind the new node. -/
def R6 (w0 : World) (base b q : Nat) (S : St) (nm : Nm) (va : Value) (al : List Atr) (t : Value) (w : World) : Prop :=
  ∃ P3 n ao c, t = .pointer (some ⟨n, 0, none⟩) ∧ n < w.heap.size ∧ BdS w base b P3 S ∧ Below base w0 w ∧ Bx w q nm va ∧ Nx w n nm (.slice ao al.length c) ∧ AtP w P3 (.slice ao al.length c) al
/-- A node's block that nothing has been put into yet. -/
def Nz (w : World) (q : Nat) : Prop := w.heap[q]? = some (.cells #[.string ⟨#[]⟩, .slice none 0 0, .string ⟨#[]⟩, .slice none 0 0] 99 (0, 0))
theorem Nz.cells {w : World} {q : Nat} (h : Nz w q) : w.cell? ⟨q, 0, none⟩ = some (.string ⟨#[]⟩) ∧ w.cell? ⟨q, 1, none⟩ = some (.slice none 0 0) ∧ w.cell? ⟨q, 2, none⟩ = some (.string ⟨#[]⟩) ∧ w.cell? ⟨q, 3, none⟩ = some (.slice none 0 0) ∧
    w.frozen? ⟨q, 0, none⟩ = false ∧ w.frozen? ⟨q, 1, none⟩ = false ∧ w.frozen? ⟨q, 2, none⟩ = false ∧ w.frozen? ⟨q, 3, none⟩ = false ∧ q < w.heap.size := by
  have hl := (Array.getElem?_eq_some_iff.1 h).1
  have h' : w.heap[q]? = _ := h
  have key : w.cell? ⟨q, 0, none⟩ = some (.string ⟨#[]⟩) ∧ w.cell? ⟨q, 1, none⟩ = some (.slice none 0 0) ∧ w.cell? ⟨q, 2, none⟩ = some (.string ⟨#[]⟩) ∧ w.cell? ⟨q, 3, none⟩ = some (.slice none 0 0) ∧
      w.frozen? ⟨q, 0, none⟩ = false ∧ w.frozen? ⟨q, 1, none⟩ = false ∧ w.frozen? ⟨q, 2, none⟩ = false ∧ w.frozen? ⟨q, 3, none⟩ = false := by
    clear h hl
    simp [World.cell?, World.frozen?, h']
  exact ⟨key.1, key.2.1, key.2.2.1, key.2.2.2.1, key.2.2.2.2.1, key.2.2.2.2.2.1, key.2.2.2.2.2.2.1, key.2.2.2.2.2.2.2, hl⟩
theorem R6.drew {w0 w : World} {base b q : Nat} {S : St} {nm : Nm} {va t : Value} {al : List Atr} (h : R6 w0 base b q S nm va al t w) : R6 w0 base b q S nm va al t w.drew := by
  obtain ⟨P3, n, ao, c, e, h1, h2, h3, h4, h5, h6⟩ := h
  exact ⟨P3, n, ao, c, e, h1, h2.of_bl (Below.drew (Bl.refl _)), Below.drew h3, h4.of_bl (Below.drew (Bl.refl _)), h5, h6.still (Still.of_bl (Below.drew (Bl.refl _)))⟩
theorem r6_a {w0 wc w3 : World} {base b q lo c : Nat} {P2 : Nat → Prop} {S : St} {nm : Nm} {va : Value} {ao : Option Addr} {al : List Atr} (hB2 : BdS wc base b P2 S) (hw2 : Below base w0 wc) (hbw : base ≤ wc.heap.size) (hx : Bx w3 q nm va)
    (hA3 : AtP w3 (fun k => lo ≤ k ∧ k < w3.heap.size) (.slice ao al.length c) al) (hs : wc.heap.size ≤ lo) (hb : Bl wc w3) :
    R6 w0 base b q S nm va al (.pointer (some ⟨w3.heap.size, 0, none⟩)) (w3.alloc (.cells #[.string ⟨nm.toArray⟩, .slice ao al.length c, .string ⟨#[]⟩, .slice none 0 0] 99)) := by
  refine ⟨_, w3.heap.size, ao, c, rfl, by simp, hB2.more (hb.alloc _), Below.trans hw2 (Below.mono (show Bl wc _ from hb.alloc _) hbw), hx.of_bl ((Bl.refl _).alloc _), heap_alloc_new _ _, ?_⟩
  refine (hA3.still (Still.of_bl ((Bl.refl _).alloc _))).mono fun k hk => .inr ⟨Nat.le_trans hs hk.1, by have := hk.2; simp; omega⟩
theorem r6_b {w0 wc w3 : World} {base b q lo c : Nat} {P2 : Nat → Prop} {S : St} {nm : Nm} {va : Value} {ao : Option Addr} {al : List Atr} (hB2 : BdS wc base b P2 S) (hw2 : Below base w0 wc) (hbw : base ≤ wc.heap.size) (hx : Bx w3 q nm va) (hq : q < wc.heap.size)
    (hA3 : AtP w3 (fun k => lo ≤ k ∧ k < w3.heap.size) (.slice ao al.length c) al) (hs : wc.heap.size < lo) (hb : Bl wc w3) (hz : Nz w3 wc.heap.size) :
    R6 w0 base b q S nm va al (.pointer (some ⟨wc.heap.size, 0, none⟩)) ((((w3.setCell ⟨wc.heap.size, 0, none⟩ (.string ⟨nm.toArray⟩)).setCell ⟨wc.heap.size, 1, none⟩ (.slice ao al.length c)).setCell ⟨wc.heap.size, 2, none⟩ (.string ⟨#[]⟩)).setCell ⟨wc.heap.size, 3, none⟩ (.slice none 0 0)) := by
  have hz' : w3.heap[wc.heap.size]? = _ := hz
  have hb2 : Bl wc ((((w3.setCell ⟨wc.heap.size, 0, none⟩ (.string ⟨nm.toArray⟩)).setCell ⟨wc.heap.size, 1, none⟩ (.slice ao al.length c)).setCell ⟨wc.heap.size, 2, none⟩ (.string ⟨#[]⟩)).setCell ⟨wc.heap.size, 3, none⟩ (.slice none 0 0)) :=
    Below.setCell (Below.setCell (Below.setCell (Below.setCell hb (Nat.le_refl _) _) (Nat.le_refl _) _) (Nat.le_refl _) _) (Nat.le_refl _) _
  have hst : Still (fun k => k ≠ wc.heap.size) w3 ((((w3.setCell ⟨wc.heap.size, 0, none⟩ (.string ⟨nm.toArray⟩)).setCell ⟨wc.heap.size, 1, none⟩ (.slice ao al.length c)).setCell ⟨wc.heap.size, 2, none⟩ (.string ⟨#[]⟩)).setCell ⟨wc.heap.size, 3, none⟩ (.slice none 0 0)) :=
    (((Still.set _ _ _ _ (by simp)).trans (Still.set _ _ _ _ (by simp))).trans (Still.set _ _ _ _ (by simp))).trans (Still.set _ _ _ _ (by simp))
  refine ⟨_, wc.heap.size, ao, c, rfl, ?_, hB2.more hb2, Below.trans hw2 (Below.mono hb2 hbw), hx.still hst (by simp; omega), ?_, ?_⟩
  · have := (Array.getElem?_eq_some_iff.1 hz').1; simpa using this
  · unfold Nx
    simp [World.setCell, hz', Array.getElem?_modify]
  · refine (hA3.still (hst.mono fun k hk => by have := hk.1; omega)).mono fun k hk => .inr ⟨by have := hk.1; omega, by have := hk.2; simp; omega⟩
set_option maxRecDepth 100000 in
set_option maxHeartbeats 4000000 in
theorem token_c2 (base b : Nat) (P : Nat → Prop) (s : St) (nm : Nm) (al : List Atr) (va : Value) (w : World) (hB : BdS w base b P s) (hbw : base ≤ w.heap.size) (hO : OkS s 0) (ht : tkE (2, nm, al, []) = 0) (hA : AtP w (· < base) va al) (hl : al.length ≤ 100000000) :
    Calls Tryz.prog 88 #[.pointer (some ⟨b, 0, none⟩), .agg #[.int .i64 2, .string ⟨nm.toArray⟩, va, .string ⟨#[]⟩]] w fun e w' => e = .returned (.tuple #[]) ∧ (∃ P', BdS w' base b P' (stp s (2, nm, al, []))) ∧ Below base w w' := by
  obtain ⟨a, c, hva, hac⟩ : ∃ a c, va = .slice a al.length c ∧ al.length ≤ c := by obtain ⟨a, c, e, h, -⟩ := hA; exact ⟨a, c, e, h⟩
  subst hva
  have h8 := iv_len hO.iv.1
  have hnl : (nms s).reverse.length ≤ 1099511627776 := by rw [List.length_reverse, nms_len]; omega
  have NC := Lib.hid (fun (W : World) (hb : Bl w W) => names_c base b P s W (hB.of_bl hb) (by omega))
  have SC := Lib.hid (fun (v : Value) (W : World) (h : StS W v (nms s).reverse) => (show Calls Tryz.prog 122 #[v, .string ⟨nm.toArray⟩] W (fun e w' => e = .returned (.int .i64 (cls (nms s) nm : Nat)) ∧ W = w') from by
    have := stays_c (nms s).reverse v nm hnl W h
    unfold stI at this
    rw [List.reverse_reverse] at this
    exact this))
  have CC := Lib.hid (fun (W : World) (hb : Bl w W) => close_c base b _ s (cls (nms s) nm) W (hB.more hb) (Nat.le_trans hbw (Below.size hb)) hO.iv (by have := hO.cnt; omega))
  have HST := Lib.hid (show stp s (2, nm, al, []) = opn (pops (s.2.length - cls (nms s) nm) s) nm al by unfold stp; rw [if_neg (show ¬ (2 : Int) = 1 by decide), if_pos rfl])
  have hSI := iv_pops (s.2.length - cls (nms s) nm) hO.iv
  have hSC := pops_cnt (s.2.length - cls (nms s) nm) s
  have hcn := hO.cnt
  obtain ⟨S, hS⟩ : ∃ S, S = pops (s.2.length - cls (nms s) nm) s := ⟨_, rfl⟩
  rw [← hS] at CC HST hSI hSC
  have CL := Lib.hid (fun (W : World) (hb : Below base w W) => clone_c al (.slice a al.length c) hl W ((hA.still ⟨Below.size hb, fun k hk hp => Below.block hb k hp⟩).ats))
  have EC := Lib.hid (fun W => empty_c nm W)
  have hnn : nm ≠ [] := isNm_ne ((tkE_zero ht).2.2 (show (2 : Int) ≠ 1 by decide)).2.1
  have HI := Lib.hid hSI
  have HC := Lib.hid (show cntS S ≤ 90000 by omega)
  have HNN := Lib.hid hnn
  clear hS hB hO h8 hnl hSI hSC hcn ht hA hnn
  go_enter Tryz.func88, Tryz.ntmps88
  go_upto_region 5 with fail
  go_cut [] from 17 to 23 (fun wx => R5 w base b w.heap.size S nm (.slice a al.length c) wx)
  case first =>
    go_region_with (first | (go_at_call 123; (with_reducible refine (NC.out _ (by repeat (first | exact Bl.refl _ | refine Bl.drew ?_ | refine Bl.alloc ?_ _))).mono ?_); rintro e w1 ⟨v, rfl, hS1, hb1⟩; have z1 : w1.cell? ⟨w.heap.size, 1, none⟩ = some (.string ⟨nm.toArray⟩) := (hb1.cells.1 w.heap.size 1 (by simp)).trans (by simp); have hw1 : Bl w w1 := Bl.trans (by repeat (first | exact Bl.refl _ | refine Bl.drew ?_ | refine Bl.alloc ?_ _)) hb1; have hx1 : Bx w1 w.heap.size nm (.slice a al.length c) := (Below.block hb1 w.heap.size (by simp)).trans (heap_alloc_new _ _); clear hb1) | (go_at_call 122; (with_reducible refine (SC.out _ _ (by first | exact hS1 | exact hS1.of_bl (Below.drew (Bl.refl _)))).mono ?_); rintro e w7 ⟨rfl, rfl⟩) | (go_at_call 89; (with_reducible refine (CC.out _ (by first | exact hw1 | exact Below.drew hw1)).mono ?_); rintro e w2 ⟨rfl, ⟨P2, hp2, hB2⟩, hb2, hs2⟩; have hx2 : Bx w2 w.heap.size nm (.slice a al.length c) := Bx.still (by first | exact hx1 | exact hx1.of_bl (Below.drew (Bl.refl _))) hs2 (.inr ⟨Nat.le_refl _, hx1.lt⟩); have hw2 : Below base w w2 := Below.trans (Below.mono (show Bl w _ by first | exact hw1 | exact Below.drew hw1) hbw) hb2; clear hb2 hs2 hp2))
    all_goals
      go_wp2_with fail
      go_meet
      case rel => exact ⟨P2, by first | exact hB2 | exact hB2.of_bl (Below.drew (Bl.refl _)), by first | exact hw2 | exact Below.drew hw2, by first | exact hx2 | exact hx2.of_bl (Below.drew (Bl.refl _))⟩
  case rest =>
    obtain ⟨P2, hB2, hw2, hx2⟩ := hcut
    obtain ⟨z0, z1, z2, z3⟩ := hx2.cells
    have hxl := hx2.lt
    go_upto_region 6 with fail
    go_cut [4] from 24 to 29 (fun t wx => R6 w base b w.heap.size S nm (.slice a al.length c) al t wx)
    case first =>
      go_region_with (go_at_call 104; (with_reducible refine (CL.out _ (by repeat (first | exact hw2 | refine Below.drew ?_ | refine Below.alloc ?_ (Nat.le_trans hbw (Nat.le_trans (Below.size hw2) (by simp))) _))).mono ?_); rintro e w3 ⟨ao, c3, rfl, hA3, hb3⟩; have hx3 := Bx.of_bl (show Bx _ w.heap.size nm (.slice a al.length c) from (by first | exact hx2 | exact hx2.of_bl (by repeat (first | exact Bl.refl _ | refine Bl.drew ?_ | refine Bl.alloc ?_ _)))) hb3; obtain ⟨y0, y1, y2, y3⟩ := hx3.cells; have hlx3 := hx3.lt; have hs3 := Below.size hb3; have hbc : Bl wc w3 := Bl.trans (by repeat (first | exact Bl.refl _ | refine Bl.drew ?_ | refine Bl.alloc ?_ _)) hb3; (try (have hz3 : Nz w3 wc.heap.size := (Below.block hb3 wc.heap.size (by simp)).trans (heap_alloc_new _ _); obtain ⟨n0, n1, n2, n3, n4, n5, n6, n7, n8⟩ := hz3.cells)))
      all_goals
        go_wp2_with fail
        go_meet
        case rel => repeat (first | (with_reducible exact r6_a hB2 hw2 (Nat.le_trans hbw (Below.size hw2)) hx3 hA3 (by simp) hbc) | (with_reducible exact r6_b hB2 hw2 (Nat.le_trans hbw (Below.size hw2)) hx3 hxl hA3 (by simp) hbc hz3) | refine R6.drew ?_)
    case rest =>
      obtain ⟨P3, q, ao, c3, rfl, hq, hB3, hw3, hx3, hn3, hA3⟩ := hcut
      obtain ⟨y0, y1, y2, y3⟩ := hx3.cells
      obtain ⟨m0, m1, m2, m3⟩ := hn3.cells
      have hB4 := hB3
      obtain ⟨gn, cn, vo, lv, v, oe, h⟩ := hB4
      have hoe : oe.length = S.2.length := by rw [← opO_len S.2, ← h.oeq, List.length_map]
      obtain ⟨c0, c1, f0, f1⟩ := h.cells
      have hblt := h.blt
      obtain ⟨aoo, coo, rfl, hcoo, -⟩ := h.oc
      have hS8 := iv_len HI.out.1
      by_cases h8 : S.2.length = 8
      · have hoe8 : oe.length = 8 := by omega
        rw [hoe8] at c1
        have HB := Lib.hid hB3
        have H8 := Lib.hid h8
        clear h hoe hoe8 h8 hB3 hS8 hcoo
        go_wp2
        go_end0
        exact ⟨rfl, ⟨P3, by rw [HST.out]; unfold opn; rw [if_pos H8.out]; exact HB.out⟩, hw3⟩
      · have hoe8 : ((oe.length : Int) == 8) = false := by simp; omega
        cases hem : emptyN nm
        · rw [hem] at EC
          have HOP := Lib.hid (show stp s (2, nm, al, []) = (S.1, (nm, al, []) :: S.2) by rw [HST.out]; unfold opn; rw [if_neg h8, if_neg (by rw [hem]; decide)])
          obtain ⟨i0, hi, hz0, hz1, hz2⟩ := info_parts Tryz.infoNod
          obtain ⟨j0, hj, hj0, hj1, hj2⟩ := info_parts Tryz.infoSl
          have hoel : oe.length ≤ 8 := by omega
          have hlvl : lv.length ≤ 8 := by rw [h.len, lsI_len]; omega
          have hbw3 := Nat.le_trans hbw (Below.size hw3)
          have H := Lib.hid h
          have HA3 := Lib.hid hA3
          have hlt1 : (oe.length : Int) < (oe.length : Int) + 1 := by omega
          clear h hoe hem h8 hB3 hS8 hA3
          go_wp2_with (go_at_call 105; (with_reducible refine (EC.out _).mono ?_); rintro e w7 ⟨rfl, rfl⟩)
          go_region_law (refine step_append_gr rfl (.tmp 33) (.tmp 36) 83 rfl base 99 i0 (.agg #[.string ⟨#[]⟩, .slice none 0 0, .string ⟨#[]⟩, .slice none 0 0]) 4 80 Tryz.underlying83 hi hz0 hz1 hz2 rfl (by decide) (.slice aoo oe.length coo) oe.length (opV oe) (by simp [Act.eval, Act.put]) (own_bl' H.out.opn (by repeat (first | exact Bl.refl _ | refine Bl.drew ?_ | refine Bl.alloc ?_ _))) ⟨wc.heap.size, 0, none⟩ 1 1 [.string ⟨#[]⟩, .slice none 0 0, .string ⟨#[]⟩, .slice none 0 0] (by simp [Act.eval, Act.put]) rfl (new_cells wc #[.string ⟨#[]⟩, .slice none 0 0, .string ⟨#[]⟩, .slice none 0 0] _) (by simp [Value.oneCell']) (by decide) (by unfold maxLen; omega) (by omega) (by simp; omega) ?_; intro v' wz hown' hgr; obtain ⟨gv, cv, rfl, hcv⟩ := own_some hown'; have hg2 := hgr.of_bl (w := wc) (by repeat (first | exact Bl.refl _ | refine Bl.drew ?_ | refine Bl.alloc ?_ _)); obtain ⟨k0, k1, k4, k5⟩ := H.out.bkept H.out.opn (by decide) (Bl.refl _) hg2; have k2 := own_nb H.out H.out.opn (by decide) hg2 hown'; have k3 := Ne.symm k2; obtain ⟨r0, r1, r2, r3, r4, r5, r6, r7, r8⟩ := own_last4 hown' (opV_len oe); have HG := Lib.hid hg2; have HW := Lib.hid hown'; clear hgr hg2 hown')
          all_goals
            try rw [sc_comm4 (h := k2)]
            have HG4 := HG.out.put4 rfl (oe.length * 4) (oe.length * 4 + 1) (oe.length * 4 + 2) (oe.length * 4 + 3) (.string ⟨nm.toArray⟩) (.slice ao al.length c3) (.string ⟨#[]⟩) (.slice none 0 0)
            have h5 := H.out.open1 (p := ((nm, al), .slice ao al.length c3)) (by rw [opV_snoc]; exact own_put4 HW.out (opV_len oe) (.string ⟨nm.toArray⟩) (.slice ao al.length c3) (.string ⟨#[]⟩) (.slice none 0 0)) HG4.size HG4.other HG4.blk HA3.out
            have hw5 := Below.setCell (Below.trans hw3 (HG4.below (fun k hk => (World.ownsRow.lt H.out.opn k hk).1) hbw3)) H.out.bas (p := ⟨b, 1, none⟩) (.slice (some ⟨gv, 0, none⟩) (oe.length + 1) cv)
            obtain ⟨W1, hW1⟩ : ∃ W1, W1 = ((((wz.setCell ⟨gv, oe.length * 4, none⟩ (.string ⟨nm.toArray⟩)).setCell ⟨gv, oe.length * 4 + 1, none⟩ (.slice ao al.length c3)).setCell ⟨gv, oe.length * 4 + 2, none⟩ (.string ⟨#[]⟩)).setCell ⟨gv, oe.length * 4 + 3, none⟩ (.slice none 0 0)).setCell ⟨b, 1, none⟩ (.slice (some ⟨gv, 0, none⟩) (oe.length + 1) cv) := ⟨_, rfl⟩
            rw [← hW1] at h5 hw5 ⊢
            clear hW1 HG4 c0 c1 f0 f1 k0 k1 k2 k3 k4 k5 r0 r1 r2 r3 r4 r5 r6 r7 r8 m0 m1 m2 m3 y0 y1 y2 y3
            obtain ⟨c0, c1, f0, f1⟩ := h5.cells
            have hb5 := h5.blt
            have hbw5 := Nat.le_trans hbw (Below.size hw5)
            have H5 := Lib.hid h5
            have HW5 := Lib.hid hw5
            clear h5 hw5
            go_wp2_with (at_builtin; refine wpList_append_gr _ rfl _ _ 108 rfl base 83 j0 (.slice none 0 0) 1 24 Tryz.underlying108 hj hj0 hj1 hj2 rfl (by decide) (.slice (some ⟨gn, 0, none⟩) (lv.length + 1) cn) (lv.length + 1) (lv ++ [v]) rfl (own_bl' H5.out.nod ((Bl.refl _).alloc _)) ⟨W1.heap.size, 0, none⟩ 1 1 [.slice none 0 0] rfl rfl (new_cells W1 #[.slice none 0 0] _) (by simp [Value.oneCell']) (by decide) (by unfold maxLen; omega) (by omega) (by simp; omega) ?_)
            intro v' wz2 hown2 hgr2
            obtain ⟨gn1, cn1, rfl, hcn1⟩ := own_some hown2
            have hg6 := hgr2.of_bl (w := W1) ((Bl.refl _).alloc _)
            obtain ⟨k0, k1, k4, k5⟩ := H5.out.bkept H5.out.nod (by decide) (Bl.refl _) hg6
            have hlev := H5.out.level (by rw [List.append_assoc]; exact hown2) hg6.size (fun k hk hn => hg6.other k hk (by simp only [Value.ownBlock, ne_eq, Option.some.injEq]; exact fun e => hn e.symm)) (by
              rcases hg6.blk with e | ⟨j, e, hj⟩
              · simp only [Value.ownBlock, Option.some.injEq] at e; exact .inl e
              · simp only [Value.ownBlock, Option.some.injEq] at e; exact .inr (e ▸ hj))
            have HL := Lib.hid hlev
            have HB6 := Lib.hid (Below.setCell (Below.trans HW5.out (hg6.below (fun k hk => (World.ownsRow.lt H5.out.nod k hk).1) hbw5)) H5.out.bas (p := ⟨b, 0, none⟩) (.slice (some ⟨gn1, 0, none⟩) (lv.length + 1 + 1) cn1))
            clear hlev hgr2 hg6 hown2 c0 c1 f0 f1
            go_wp2
            go_end0
            exact ⟨rfl, ⟨P3, by rw [HOP.out]; exact ⟨_, _, _, _, _, _, HL.out⟩⟩, HB6.out⟩
        · rw [hem] at EC
          have HOP := Lib.hid (show stp s (2, nm, al, []) = put S (.mk nm al [] []) by rw [HST.out]; unfold opn; rw [if_neg h8, if_pos hem])
          have PC := Lib.hid (fun (W : World) (hb : Bl wc W) => (show Calls Tryz.prog 121 #[.pointer (some ⟨b, 0, none⟩), .agg #[.string ⟨nm.toArray⟩, .slice ao al.length c3, .string ⟨#[]⟩, .slice none 0 0]] W (fun e w' => e = .returned (.tuple #[]) ∧ BdS w' base b P3 (put S (.mk nm al [] [])) ∧ Below base W w' ∧ Still P3 W w') from put_cB base b P3 S (.mk nm al [] []) (.slice ao al.length c3) (.slice none 0 0) W (hB3.of_bl hb) (hA3.still (Still.of_bl hb)) (NdS.nil _ _) (Nat.le_trans hbw (Nat.le_trans (Below.size hw3) (Below.size hb))) (by have := lsX_le S.1 S.2; have h5 := HC.out; have e : cntS (S.1, S.2) = cntS S := rfl; omega) (by omega) HNN.out))
          clear h hoe hem h8 hB3 hS8 hcoo hA3
          go_wp2_with (first | (go_at_call 105; (with_reducible refine (EC.out _).mono ?_); rintro e w7 ⟨rfl, rfl⟩) | (go_at_call 121; (with_reducible refine (PC.out _ (Bl.refl _)).mono ?_); rintro e w4 ⟨rfl, hB5, hb5, -⟩))
          go_end0
          exact ⟨rfl, ⟨P3, by rw [HOP.out]; exact hB5⟩, Below.trans hw3 hb5⟩
end Go.Proofs.YthnpljkekhieiaaGreatDoor

/- Trees: the reference's BuildOf (printed by gen_buildof.py). -/
import Derived.Test.YtjclpmpphkmpdaaGreatDoorGrpQ
import Derived.Test.YtjclpmpphkmpdaaGreatDoorGrpR
import Derived.Test.YtjclpmpphkmpdaaGreatDoorGrpS
import Derived.Test.YtjclpmpphkmpdaaGreatDoorTreM
namespace Go.Proofs.YtjclpmpphkmpdaaGreatDoor
open Go.RowKit

theorem alloc_sz (w : World) (o : Obj) : (w.alloc o).heap.size = w.heap.size + 1 := by simp
theorem nz_a {w1 w2 : World} (hg : ((w1.alloc (.cells #[] 69)).alloc (.cells #[.string ⟨#[]⟩, .slice none 0 0, .string ⟨#[]⟩, .slice none 0 0] 51)).grownBy w2 (Value.slice (some ⟨w1.heap.size, 0, none⟩) 0 0).ownBlock) : Nz w2 (w1.heap.size + 1) := by
  have h9 := heap_alloc_new (w1.alloc (.cells #[] 69)) (.cells #[.string ⟨#[]⟩, .slice none 0 0, .string ⟨#[]⟩, .slice none 0 0] 51)
  rw [alloc_sz] at h9
  exact (hg.block (w1.heap.size + 1) (by simp) (by simp [Value.ownBlock])).trans h9
theorem nz_b {w1 w2 : World} (hg : ((w1.alloc (.cells #[] 69)).drew.alloc (.cells #[.string ⟨#[]⟩, .slice none 0 0, .string ⟨#[]⟩, .slice none 0 0] 51)).grownBy w2 (Value.slice (some ⟨w1.heap.size, 0, none⟩) 0 0).ownBlock) : Nz w2 (w1.heap.size + 1) := nz_a ⟨hg.os, hg.tape, hg.output, hg.size, hg.block⟩
theorem nz_c {w1 w2 : World} (hg : ((w1.alloc (.cells #[] 69)).alloc (.cells #[.string ⟨#[]⟩, .slice none 0 0, .string ⟨#[]⟩, .slice none 0 0] 51)).drew.grownBy w2 (Value.slice (some ⟨w1.heap.size, 0, none⟩) 0 0).ownBlock) : Nz w2 (w1.heap.size + 1) := nz_a ⟨hg.os, hg.tape, hg.output, hg.size, hg.block⟩
theorem nz_d {w1 w2 : World} (hg : ((w1.alloc (.cells #[.string ⟨#[]⟩, .slice none 0 0, .string ⟨#[]⟩, .slice none 0 0] 51)).alloc (.cells #[] 69)).grownBy w2 (Value.slice (some ⟨w1.heap.size + 1, 0, none⟩) 0 0).ownBlock) : Nz w2 w1.heap.size :=
  (hg.block w1.heap.size (by simp; omega) (by simp [Value.ownBlock])).trans ((Below.block ((Bl.refl (w1.alloc (.cells #[.string ⟨#[]⟩, .slice none 0 0, .string ⟨#[]⟩, .slice none 0 0] 51))).alloc (.cells #[] 69)) w1.heap.size (by simp)).trans (heap_alloc_new w1 _))
theorem nz_e {w1 w2 : World} (hg : ((w1.alloc (.cells #[.string ⟨#[]⟩, .slice none 0 0, .string ⟨#[]⟩, .slice none 0 0] 51)).drew.alloc (.cells #[] 69)).grownBy w2 (Value.slice (some ⟨w1.heap.size + 1, 0, none⟩) 0 0).ownBlock) : Nz w2 w1.heap.size := nz_d ⟨hg.os, hg.tape, hg.output, hg.size, hg.block⟩
theorem nz_f {w1 w2 : World} (hg : ((w1.alloc (.cells #[.string ⟨#[]⟩, .slice none 0 0, .string ⟨#[]⟩, .slice none 0 0] 51)).alloc (.cells #[] 69)).drew.grownBy w2 (Value.slice (some ⟨w1.heap.size + 1, 0, none⟩) 0 0).ownBlock) : Nz w2 w1.heap.size := nz_d ⟨hg.os, hg.tape, hg.output, hg.size, hg.block⟩
theorem Nx.froz {w : World} {q : Nat} {nm : Nm} {va : Value} (h : Nx w q nm va) : w.frozen? ⟨q, 3, none⟩ = false ∧ q < w.heap.size := by
  have hl := (Array.getElem?_eq_some_iff.1 h).1
  unfold Nx at h
  exact ⟨by simp [World.frozen?, h], hl⟩
/-- Behind the new node of the reference. -/
def R19 (w1 : World) (nm : Nm) (al : List Atr) (t : Value) (w : World) : Prop :=
  ∃ q2 ao c, t = .pointer (some ⟨q2, 0, none⟩) ∧ w1.heap.size ≤ q2 ∧ Bl w1 w ∧ Nx w q2 nm (.slice ao al.length c) ∧ ∃ P, AtP w P (.slice ao al.length c) al ∧ ∀ k, P k → w1.heap.size ≤ k ∧ k < w.heap.size ∧ k ≠ q2
theorem R19.drew {w1 w : World} {nm : Nm} {al : List Atr} {t : Value} (h : R19 w1 nm al t w) : R19 w1 nm al t w.drew := by
  obtain ⟨q, ao, c, e, h1, h2, h3, P, h4, h5⟩ := h
  exact ⟨q, ao, c, e, h1, Bl.drew h2, h3, P, h4.still (Still.of_bl (Below.drew (Bl.refl _))), h5⟩
theorem AtO.apart {w : World} {base q : Nat} {v : Value} {l : List Atr} {c : Array Value} (h : AtO w base v l) (hq : w.heap[q]? = some (.cells c 51 (0, 0))) : AtP w (fun k => base ≤ k ∧ k < w.heap.size ∧ k ≠ q) v l := by
  have hne := own_ty h hq (by decide)
  have h2 := h.ats
  obtain ⟨ao, cap, rfl, hc⟩ := h2
  have hcap : l.length ≤ cap := by
    rcases h.2 with ⟨e, h0⟩ | ⟨g, cap', cur, e, _, _, hnc, _⟩
    · simp only [Value.slice.injEq] at e; omega
    · simp only [Value.slice.injEq] at e; omega
  refine ⟨ao, cap, rfl, hcap, fun i hi => ?_⟩
  obtain ⟨g, o, rfl, h3, h4, h5⟩ := hc i hi
  exact ⟨g, o, rfl, h3, ⟨((World.ownsRow.lt h) g rfl).1, h3, fun e => hne (by rw [← e]; rfl)⟩, h4, h5⟩
theorem r19_a {w1 w2 : World} {nm : Nm} {al : List Atr} {ao : Option Addr} {c : Nat} (hb : Bl w1 w2) (hO : AtO w2 w1.heap.size (.slice ao al.length c) al) :
    R19 w1 nm al (.pointer (some ⟨w2.heap.size, 0, none⟩)) (w2.alloc (.cells #[.string ⟨nm.toArray⟩, .slice ao al.length c, .string ⟨#[]⟩, .slice none 0 0] 51)) := by
  refine ⟨w2.heap.size, ao, c, rfl, Below.size hb, hb.alloc _, heap_alloc_new _ _, fun k => w1.heap.size ≤ k ∧ k < w2.heap.size, (AtO.atp hO).still (Still.of_bl ((Bl.refl _).alloc _)), fun k hk => ⟨hk.1, by have := hk.2; simp; omega, by have := hk.2; omega⟩⟩
theorem r19_b {w1 w2 : World} {q : Nat} {nm : Nm} {al : List Atr} {ao : Option Addr} {c : Nat} (hb : Bl w1 w2) (hO : AtO w2 w1.heap.size (.slice ao al.length c) al) (hz : Nz w2 q) (hq : w1.heap.size ≤ q) :
    R19 w1 nm al (.pointer (some ⟨q, 0, none⟩)) ((((w2.setCell ⟨q, 0, none⟩ (.string ⟨nm.toArray⟩)).setCell ⟨q, 1, none⟩ (.slice ao al.length c)).setCell ⟨q, 2, none⟩ (.string ⟨#[]⟩)).setCell ⟨q, 3, none⟩ (.slice none 0 0)) := by
  have hz' : w2.heap[q]? = _ := hz
  have hA := hO.apart hz'
  have hst : Still (fun k => k ≠ q) w2 ((((w2.setCell ⟨q, 0, none⟩ (.string ⟨nm.toArray⟩)).setCell ⟨q, 1, none⟩ (.slice ao al.length c)).setCell ⟨q, 2, none⟩ (.string ⟨#[]⟩)).setCell ⟨q, 3, none⟩ (.slice none 0 0)) :=
    (((Still.set _ _ _ _ (by simp)).trans (Still.set _ _ _ _ (by simp))).trans (Still.set _ _ _ _ (by simp))).trans (Still.set _ _ _ _ (by simp))
  refine ⟨q, ao, c, rfl, hq, Below.setCell (Below.setCell (Below.setCell (Below.setCell hb hq _) hq _) hq _) hq _, ?_, _, hA.still (hst.mono fun k hk => hk.2.2), fun k hk => ⟨hk.1, by have := hk.2.1; simpa using this, hk.2.2⟩⟩
  unfold Nx
  simp [World.setCell, hz', Array.getElem?_modify]
theorem bl_ret {l T' : List Tok} {a0 n c : Nat} {r : List Nm} {out : List Nd} (h : bl r (l.drop a0) [] = (out, T', c)) (hn : l.length - T'.length = n) : l.length - (bl r (l.drop a0) []).2.1.length = n ∧ (bl r (l.drop a0) []).2.2 = c ∧ (bl r (l.drop a0) []).1 = out := by
  rw [h]; exact ⟨hn, rfl, rfl⟩
theorem szT_drop (l : List Tok) (k : Nat) (h : k < l.length) : szT (l.drop k) = (l[k].2.1.length + szA l[k].2.2.1 + 6 * l[k].2.2.2.length + 5) + szT (l.drop (k + 1)) := by
  rw [List.drop_eq_getElem_cons h]
  simp only [szT, List.map_cons, List.sum_cons]
set_option maxRecDepth 100000 in
set_option maxHeartbeats 16000000 in
theorem buildOf_c (l : List Tok) (v : Value) (B : Nat) (hB : B ≤ 9000000) (M : Nat) : ∀ (a0 : Nat) (r : List Nm) (vn : Value) (w : World), l.length - a0 < M → a0 ≤ l.length → r.length ≤ 8 → szT (l.drop a0) ≤ B → l.length ≤ 9000000 → TkS w v l → StS w vn r.reverse →
    Calls Tryz.prog 8 #[v, .int .i64 (a0 : Int), vn] w fun e w' => ∃ v', e = .returned (.tuple #[v', .int .i64 ((l.length - (bl r (l.drop a0) []).2.1.length : Nat) : Int), .int .i64 (((bl r (l.drop a0) []).2.2 : Nat) : Int)]) ∧
      (∃ Q, NdS w' Q v' (bl r (l.drop a0) []).1 ∧ ∀ k, Q k → w.heap.size ≤ k ∧ k < w'.heap.size) ∧ Bl w w' := by
  induction M with
  | zero => intro a0 r vn w h; omega
  | succ M ih =>
    intro a0 r vn w hM ha0 hr hsz hll hT hS
    obtain ⟨i0, hi, hz0, hz1, hz2⟩ := info_parts Tryz.infoNod
    obtain ⟨j0, hj, hy0, hy1, hy2⟩ := info_parts Tryz.infoAtr
    obtain ⟨s0, hs, hs0, hs1, hs2⟩ := info_parts Tryz.infoStr
    have HTT := Lib.hid hT
    obtain ⟨ao, cap, rfl, hA⟩ := hT
    have IH := Lib.hid ih
    have HA := Lib.hid hA
    have HS := Lib.hid hS
    have HM := Lib.hid hM
    obtain ⟨na, nc, rfl⟩ : ∃ b c, vn = .slice b r.length c := by obtain ⟨b, c, e, -⟩ := hS; exact ⟨b, c, by simpa using e⟩
    clear ih hA hS hM
    go_enter Tryz.func8, Tryz.ntmps8
    go_wp2
    go_loopw [1, 9] (fun a u wr => ∃ (at2 : Nat) (out : List Nd) (P : Nat → Prop) (ents : List Nent), a = .int .i64 at2 ∧ a0 ≤ at2 ∧ at2 ≤ l.length ∧ Hid (bl r (l.drop a0) [] = bl r (l.drop at2) out) ∧ Hid (wtL out + szT (l.drop at2) ≤ B) ∧ Hid (NdO wr w.heap.size P u out ents) ∧ Hid (∀ k, P k → w.heap.size ≤ k ∧ k < wr.heap.size) ∧ Bl w wr) (fun a _ _ => l.length - (intOf a).toNat)
    case atStart => exact ⟨a0, [], fun _ => False, [], rfl, Nat.le_refl _, ha0, Lib.hid rfl, Lib.hid (by simpa [wtL] using hsz), Lib.hid (NdO.nil _ _ _), Lib.hid (fun k h => h.elim), Bl.refl _⟩
    case round =>
      obtain ⟨at2, out, P, ents, rfl, hat0, hat, HE, HW, HO, HP, hb⟩ := hrel
      have hwo := cnt_len out
      have hwo2 := wt_cnt out
      have hWo := HW.out
      by_cases hlt : at2 < l.length
      · obtain ⟨g, o, va, rfl, hg, h1, h2, h3, h4, hAt, hCap⟩ := HA.out at2 hlt
        have hsd := szT_drop l at2 hlt
        have HD := Lib.hid (show bl r (l.drop at2) out = _ from by rw [List.drop_eq_getElem_cons hlt, bl_cons])
        rcases ht : l[at2] with ⟨kind, nm, al, tx⟩
        rw [ht] at h1 h2 h4 hAt hsd HD
        simp only [] at h1 h2 h4 hAt hsd HD
        have y1 := (hb.cells.1 g _ hg).trans h1
        have y2 := (hb.cells.1 g _ hg).trans h2
        have y3 := (hb.cells.1 g _ hg).trans h3
        have y4 := (hb.cells.1 g _ hg).trans h4
        have hgr : g < wr.heap.size := Nat.lt_of_lt_of_le hg (Below.size hb)
        have hlal := szA_len al
        obtain ⟨a1, n1, c1, rfl, -⟩ := hCap
        have HAt := Lib.hid hAt
        clear h1 h2 h3 h4 hAt
        by_cases k1 : kind = 1
        · subst k1
          have HB1 := Lib.hid (show bl r (l.drop a0) [] = _ from by rw [HE.out, HD.out, if_pos rfl])
          have hlast : ∀ c ∈ out, c.x.length ≤ 100000000 := by
            intro c hc
            obtain ⟨i, hi, rfl⟩ := List.mem_iff_getElem.1 hc
            have := wt_get out i hi
            omega
          have JC := Lib.hid (fun W (hbW : Bl wr W) => joinText_c w.heap.size P out ents u9 tx W (HO.out.of_bl hbW) (fun k hk => Nat.lt_of_lt_of_le (HP.out k hk).2 (Below.size hbW)) (Nat.le_trans (Below.size hb) (Below.size hbW)) (by omega) (by omega) hlast)
          have hpw := pt_wt out (.mk [] [] tx [])
          simp only [wtN, wtL, wtA, List.map_nil, List.sum_nil, List.length_nil] at hpw
          clear hlast HD
          go_wp2_with (go_at_call 23; (with_reducible refine (JC.out _ ((Bl.refl _).alloc _)).mono ?_); rintro e w2 ⟨v2, ents2, rfl, hO2, hb2⟩)
          go_roundw
          case rel => exact ⟨at2 + 1, _, P, ents2, by go_num, by omega, by omega, HB1, Lib.hid (by omega), Lib.hid hO2, Lib.hid (fun k hk => ⟨(HP.out k hk).1, Nat.lt_of_lt_of_le (HP.out k hk).2 (Nat.le_trans (Below.size ((Bl.refl wr).alloc _)) hb2.size)⟩), Below.trans (hb.alloc _) hb2⟩
          case measure => simp [intOf]; omega
        · have k1f : (kind == 1) = false := by simpa using k1
          by_cases k3 : kind = 3
          · subst k3
            have HB3 := Lib.hid (show bl r (l.drop a0) [] = _ from by rw [HE.out, HD.out, if_neg k1, if_pos rfl])
            clear HD k1
            have hrl : (r.reverse).length = r.length := List.length_reverse
            obtain ⟨wo, hwo9⟩ : ∃ wo : World, wo = wr := ⟨_, rfl⟩
            subst hwo9
            go_wp2
            go_loopw [11] (fun i wx => ∃ k : Int, -1 ≤ k ∧ k < r.length ∧ i = .int .i64 k ∧ Hid (abv nm (fun _ => false) r = abv nm (fun _ => false) (r.reverse.take (k + 1).toNat).reverse) ∧ Bl w wx ∧ wx.cell? ⟨wo.heap.size, 1, none⟩ = some (.string ⟨nm.toArray⟩) ∧ wo.heap.size < wx.heap.size ∧ Bl wo wx) (fun i _ => (intOf i + 1).toNat)
            case atStart => exact ⟨(r.length : Int) - 1, by omega, by omega, rfl, Lib.hid (by rw [show ((r.length : Int) - 1 + 1).toNat = r.reverse.length by rw [hrl]; omega, List.take_length, List.reverse_reverse]), hb.alloc _, by simp, by simp, (Bl.refl _).alloc _⟩
            case round =>
              obtain ⟨k, hk1, hk2, rfl, HQ, hbx, x1, hxs, hbrx⟩ := hrel
              by_cases h0 : 0 ≤ k
              · obtain ⟨j, rfl⟩ : ∃ j : Nat, k = (j : Int) := ⟨k.toNat, by omega⟩
                have hjl : j < r.reverse.length := by omega
                obtain ⟨g2, o2, e2, hg2, q1⟩ : ∃ g2 o2, na = some ⟨g2, o2, none⟩ ∧ g2 < w.heap.size ∧ w.cell? ⟨g2, o2 + j, none⟩ = some (.string ⟨r.reverse[j].toArray⟩) := by
                  obtain ⟨a, c, e, _, h⟩ := HS.out
                  simp only [Value.slice.injEq] at e
                  obtain ⟨rfl, -, rfl⟩ := e
                  exact h j hjl
                cases e2
                have q2 := (hbx.cells.1 g2 _ hg2).trans q1
                have hg3 : g2 < wr.heap.size := Nat.lt_of_lt_of_le hg2 (Below.size hbx)
                have HE2 := Lib.hid (show abv nm (fun _ => false) r = _ from by rw [HQ.out, show ((j : Int) + 1).toNat = j + 1 by omega, abv_take _ _ r.reverse j hjl])
                obtain ⟨y, hy⟩ : ∃ y, y = r.reverse[j] := ⟨_, rfl⟩
                rw [← hy] at q2 HE2
                clear q1 hk1 hy
                by_cases hnn : y = nm
                · have HF := Lib.hid (show bl r (l.drop a0) [] = (out, l.drop (at2 + 1), j) by rw [HB3.out, HE2.out, if_pos hnn])
                  have hnf : (y == nm) = true := by simpa using hnn
                  have hnf2 : (y != nm) = false := by simpa using hnn
                  clear hnn
                  go_wp2_with (go_quiet (fail))
                  go_ret3
                  obtain ⟨c1, c2, c3⟩ := bl_ret HF.out (show l.length - (l.drop (at2 + 1)).length = at2 + 1 by rw [List.length_drop]; omega)
                  exact ⟨_, by rw [c1, c2]; rfl, ⟨_, by rw [c3]; exact (HO.out.of_bl (by repeat (first | exact hbrx | refine Bl.drewN ?_ _ | refine Bl.drew ?_))).nds, fun k hk => by rcases hk with hk | hk; exact ⟨(HP.out k hk).1, Nat.lt_of_lt_of_le (HP.out k hk).2 (by have := Below.size hbrx; simpa using this)⟩; exact ⟨(HO.out.lt k hk).1, Nat.lt_of_lt_of_le (HO.out.lt k hk).2 (by have := Below.size hbrx; simpa using this)⟩⟩, by repeat (first | exact hbx | refine Bl.drewN ?_ _ | refine Bl.drew ?_)⟩
                · have hnf : (y == nm) = false := by simpa using hnn
                  have hnf2 : (y != nm) = true := by simpa using hnn
                  have HF := Lib.hid (show abv nm (fun _ => false) r = abv nm (fun _ => false) (r.reverse.take j).reverse from by rw [HE2.out, if_neg hnn]; rfl)
                  clear hnn
                  go_wp2_with (go_quiet (fail))
                  go_roundw
                  case rel => exact ⟨(j : Int) - 1, by omega, by omega, rfl, Lib.hid (by rw [HF.out, show ((j : Int) - 1 + 1).toNat = j by omega]), by repeat (first | exact hbx | refine Bl.drewN ?_ _ | refine Bl.drew ?_), by simpa using x1, by simpa using hxs, by repeat (first | exact hbrx | refine Bl.drewN ?_ _ | refine Bl.drew ?_)⟩
                  case measure => simp [intOf] <;> omega
              · obtain rfl : k = -1 := by omega
                have HF := Lib.hid (show bl r (l.drop a0) [] = bl r (l.drop (at2 + 1)) out by rw [HB3.out, HQ.out]; rfl)
                clear h0
                go_wp2_with (go_quiet (fail))
                go_roundw
                case rel => exact ⟨at2 + 1, out, P, ents, by go_num, by omega, by omega, HF, Lib.hid (by omega), Lib.hid (HO.out.of_bl (by repeat (first | exact hbrx | refine Bl.drewN ?_ _ | refine Bl.drew ?_))), Lib.hid (fun k hk => ⟨(HP.out k hk).1, Nat.lt_of_lt_of_le (HP.out k hk).2 (by have := Below.size hbrx; simpa using this)⟩), by repeat (first | exact hbx | refine Bl.drewN ?_ _ | refine Bl.drew ?_)⟩
                case measure => simp [intOf]; omega
          · have k3f : (kind == 3) = false := by simpa using k3
            have HBO := Lib.hid (show bl r (l.drop a0) [] = _ from by rw [HE.out, HD.out, if_neg k1, if_neg k3])
            have CC := Lib.hid (fun W (hbW : Bl w W) => (show Calls Tryz.prog 24 #[.slice na r.length nc, .string ⟨nm.toArray⟩] W (fun e w' => e = .returned (.int .i64 (cls r nm : Nat)) ∧ W = w') from by
              have := closes_c r.reverse (.slice na r.length nc) nm (by simp; omega) W (HS.out.of_bl hbW)
              unfold stI at this
              rw [List.reverse_reverse] at this
              exact this))
            clear HD k1 k3
            by_cases hcl : cls r nm < r.length
            · have hcl' : ((cls r nm : Nat) : Int) < (r.length : Int) := by omega
              have HX := Lib.hid (show bl r (l.drop a0) [] = (out, (kind, nm, al, tx) :: l.drop (at2 + 1), cls r nm) by rw [HBO.out, if_pos hcl])
              clear hcl
              go_wp2_with (go_at_call 24; (with_reducible refine (CC.out _ (hb.alloc _)).mono ?_); rintro e w2 ⟨rfl, rfl⟩)
              go_ret3
              obtain ⟨c1, c2, c3⟩ := bl_ret HX.out (show l.length - ((kind, nm, al, tx) :: l.drop (at2 + 1)).length = at2 by rw [List.length_cons, List.length_drop]; omega)
              exact ⟨_, by rw [c1, c2]; rfl, ⟨_, by rw [c3]; exact (HO.out.of_bl ((Bl.refl _).alloc _)).nds, fun k hk => by rcases hk with hk | hk; exact ⟨(HP.out k hk).1, Nat.lt_of_lt_of_le (HP.out k hk).2 (by simp)⟩; exact ⟨(HO.out.lt k hk).1, Nat.lt_of_lt_of_le (HO.out.lt k hk).2 (by simp)⟩⟩, hb.alloc _⟩
            · have hcl' : ¬ ((cls r nm : Nat) : Int) < (r.length : Int) := by omega
              have hcb : decide (cls r nm < r.length) = false := decide_eq_false hcl
              by_cases h8 : r.length = 8
              · have HX := Lib.hid (show bl r (l.drop a0) [] = bl r (l.drop (at2 + 1)) out by rw [HBO.out, if_neg hcl, if_pos h8])
                have h8' : ((r.length : Int) == 8) = true := by simp [h8]
                clear hcl h8
                go_wp2_with (go_at_call 24; (with_reducible refine (CC.out _ (hb.alloc _)).mono ?_); rintro e w2 ⟨rfl, rfl⟩)
                go_roundw
                case rel => exact ⟨at2 + 1, out, P, ents, by go_num, by omega, by omega, HX, Lib.hid (by omega), Lib.hid (HO.out.of_bl ((Bl.refl _).alloc _)), Lib.hid (fun k hk => ⟨(HP.out k hk).1, Nat.lt_of_lt_of_le (HP.out k hk).2 (by simp)⟩), hb.alloc _⟩
                case measure => simp [intOf]; omega
              · have HX := Lib.hid (show bl r (l.drop a0) [] = _ from by rw [HBO.out, if_neg hcl, if_neg h8])
                have h8' : ((r.length : Int) == 8) = false := by simp; omega
                have hr8 : r.length + 1 ≤ 8 := by omega
                have hal : al.length ≤ 9000000 := by omega
                clear hcl h8 HBO
                go_upto_region 19 with (go_at_call 24; (with_reducible refine (CC.out _ (hb.alloc _)).mono ?_); rintro e w2 ⟨rfl, rfl⟩)
                obtain ⟨w1, hw1⟩ : ∃ w1, w1 = wr.alloc (.cells #[.int .i64 kind, .string ⟨nm.toArray⟩, .slice a1 n1 c1, .string ⟨tx.toArray⟩] 41) := ⟨_, rfl⟩
                have hb01 : Bl wr w1 := by rw [hw1]; exact (Bl.refl _).alloc _
                have z1 : w1.cell? ⟨wr.heap.size, 1, none⟩ = some (.string ⟨nm.toArray⟩) := by rw [hw1]; simp
                have z2 : w1.cell? ⟨wr.heap.size, 2, none⟩ = some (.slice a1 n1 c1) := by rw [hw1]; simp
                have hq1 : wr.heap.size < w1.heap.size := by rw [hw1]; simp
                have hbw1 : Bl w w1 := hb.trans hb01
                have AC := Lib.hid (fun W (hbW : Bl w1 W) => HAt.out.of_bl (hbw1.trans hbW))
                rw [← hw1]
                clear hw1
                go_cut [13] from 77 to 83 (fun t wx => R19 w1 nm al t wx)
                case first =>
                  go_region_law (first
                    | (refine step_append_ats rfl (.tmp 79) (.tmp 81) 39 rfl w1.heap.size 69 j0 (.agg #[.string ⟨#[]⟩, .string ⟨#[]⟩]) 32 Tryz.underlying39 hj hy0 hy1 hy2 rfl (.slice (some ⟨w1.heap.size, 0, none⟩) 0 0) 0 [] ?_ (own_bl (World.ownsRow_made (base := w1.heap.size) (e := 69) (size := 2) w1 #[] 0 (Nat.le_refl _) (by decide) rfl) (by repeat (first | exact Bl.refl _ | refine Bl.drew ?_ | refine Bl.alloc ?_ _))) (.slice a1 n1 c1) al (by simp [Act.eval]) (AC.out _ (by repeat (first | exact Bl.refl _ | refine Bl.drew ?_ | refine Bl.alloc ?_ _))) (by unfold maxLen; omega) (by omega) (by first | omega | (simp; omega) | simp) ?_; (· simp [Act.eval]); intro v2 w2 hown2 hgrow2; have hbq : Bl w1 w2 := Below.trans (show Bl w1 _ from (by repeat (first | exact Bl.refl _ | refine Bl.drew ?_ | refine Bl.alloc ?_ _))) (bel_gr hgrow2 (fun j hj => by simp only [Value.ownBlock, Option.some.injEq] at hj; omega) (by first | omega | (simp; omega) | simp)); have hO2 : AtO w2 w1.heap.size v2 al := (by unfold AtO; simpa using hown2); obtain ⟨ao2, cc2, rfl⟩ := hO2.shape; have x1 := (hbq.cells.1 wr.heap.size 1 hq1).trans z1; have hq2 : wr.heap.size < w2.heap.size := Nat.lt_of_lt_of_le hq1 (Below.size hbq); (try (first | have hz3 := nz_a hgrow2 | have hz3 := nz_b hgrow2 | have hz3 := nz_c hgrow2 | have hz3 := nz_d hgrow2 | have hz3 := nz_e hgrow2 | have hz3 := nz_f hgrow2)); (try obtain ⟨n0, n1', n2, n3, n4, n5, n6, n7, n8⟩ := hz3.cells))
                    | (refine step_append_ats rfl (.tmp 79) (.tmp 81) 39 rfl w1.heap.size 69 j0 (.agg #[.string ⟨#[]⟩, .string ⟨#[]⟩]) 32 Tryz.underlying39 hj hy0 hy1 hy2 rfl (.slice (some ⟨w1.heap.size + 1, 0, none⟩) 0 0) 0 [] ?_ (own_bl (by have := World.ownsRow_made (base := w1.heap.size) (e := 69) (size := 2) (w1.alloc (.cells #[.string ⟨#[]⟩, .slice none 0 0, .string ⟨#[]⟩, .slice none 0 0] 51)) #[] 0 (by simp) (by decide) rfl; simpa using this) (by repeat (first | exact Bl.refl _ | refine Bl.drew ?_ | refine Bl.alloc ?_ _))) (.slice a1 n1 c1) al (by simp [Act.eval]) (AC.out _ (by repeat (first | exact Bl.refl _ | refine Bl.drew ?_ | refine Bl.alloc ?_ _))) (by unfold maxLen; omega) (by omega) (by first | omega | (simp; omega) | simp) ?_; (· simp [Act.eval]); intro v2 w2 hown2 hgrow2; have hbq : Bl w1 w2 := Below.trans (show Bl w1 _ from (by repeat (first | exact Bl.refl _ | refine Bl.drew ?_ | refine Bl.alloc ?_ _))) (bel_gr hgrow2 (fun j hj => by simp only [Value.ownBlock, Option.some.injEq] at hj; omega) (by first | omega | (simp; omega) | simp)); have hO2 : AtO w2 w1.heap.size v2 al := (by unfold AtO; simpa using hown2); obtain ⟨ao2, cc2, rfl⟩ := hO2.shape; have x1 := (hbq.cells.1 wr.heap.size 1 hq1).trans z1; have hq2 : wr.heap.size < w2.heap.size := Nat.lt_of_lt_of_le hq1 (Below.size hbq); (try (first | have hz3 := nz_a hgrow2 | have hz3 := nz_b hgrow2 | have hz3 := nz_c hgrow2 | have hz3 := nz_d hgrow2 | have hz3 := nz_e hgrow2 | have hz3 := nz_f hgrow2)); (try obtain ⟨n0, n1', n2, n3, n4, n5, n6, n7, n8⟩ := hz3.cells)))
                  all_goals
                    go_wp2_with fail
                    go_meet
                    case rel => repeat (first | (with_reducible exact r19_a hbq hO2) | (with_reducible exact r19_b hbq hO2 hz3 (Nat.le_refl _)) | (with_reducible exact r19_b hbq hO2 hz3 (Nat.le_succ _)) | refine R19.drew ?_)
                case rest =>
                  obtain ⟨q2, ao2, cc2, rfl, hq2, hb1c, hn2, P2, hA2, hP2⟩ := hcut
                  obtain ⟨wm, hwm⟩ : ∃ wm : World, wm = wc := ⟨_, rfl⟩
                  subst hwm
                  have hbwm : Bl w wm := hbw1.trans hb1c
                  have z1 := (hb1c.cells.1 wr.heap.size 1 hq1).trans z1
                  have hqx : wr.heap.size < wm.heap.size := Nat.lt_of_lt_of_le hq1 (Below.size hb1c)
                  obtain ⟨m0, m1, m2, m3⟩ := hn2.cells
                  have hm4 := hn2.froz
                  have EC := Lib.hid (fun W => isEmptyR_c nm W)
                  have hul := HO.out.lt
                  have HO2 := Lib.hid (show NdO wm w.heap.size (fun k => P k ∨ P2 k) u9 out ents from (HO.out.of_bl (hb01.trans hb1c)).mono (fun k h => .inl h) (fun k e h => h.elim (HO.out.low k e) (fun h19 => by have := (hul k e).2; have := (hP2 k h19).1; omega)))
                  have HP2 := Lib.hid (show ∀ k, (P k ∨ P2 k) → w.heap.size ≤ k ∧ k < wm.heap.size from fun k hk => hk.elim (fun h => ⟨(HP.out k h).1, by have := (HP.out k h).2; omega⟩) (fun h => ⟨by have := (hP2 k h).1; have := Below.size hbw1; omega, (hP2 k h).2.1⟩))
                  have HA2 := Lib.hid hA2
                  have HQ2 := Lib.hid hP2
                  have HN2 := Lib.hid hn2
                  have hsw := Below.size hbwm
                  have hel : ents.length = out.length := HO.out.len
                  have hwA := wtA_sz al
                  clear hA2 hP2 hn2 z2 AC hb1c
                  cases hem : emptyN nm
                  · rw [hem] at EC
                    have HXN := Lib.hid (show bl r (l.drop a0) [] = _ from by rw [HX.out, if_neg (by rw [hem]; decide)])
                    have KC := Lib.hid (fun W vn' (hbW : Bl w W) (hs : StS W vn' (nm :: r).reverse) => IH.out (at2 + 1) (nm :: r) vn' W (by have := HM.out; omega) (by omega) (by simp; omega) (by omega) hll (HTT.out.of_bl hbW) hs)
                    have hbw9 := bl_wt (nm :: r) (l.drop (at2 + 1)) []
                    have hbl9 := bl_len (nm :: r) (l.drop (at2 + 1)) []
                    have hbd9 := bl_drop (nm :: r) (l.drop (at2 + 1)) []
                    rw [show ((at2 + 1 : Nat) : Int) = (at2 : Int) + 1 by omega] at KC
                    rcases hq9 : bl (nm :: r) (l.drop (at2 + 1)) [] with ⟨kd, T', c9⟩
                    rw [hq9] at hbw9 hbl9 hbd9
                    simp only [hq9] at KC HXN
                    simp only [wtL, List.length_drop] at hbw9 hbl9 hbd9
                    rw [List.drop_drop, show at2 + 1 + (l.length - (at2 + 1) - T'.length) = l.length - T'.length by omega] at hbd9
                    have HBD := Lib.hid hbd9
                    clear hq9 hem HX hbd9
                    go_upto_region 22 with (go_at_call 25; (with_reducible refine (EC.out _).mono ?_); rintro e w5 ⟨rfl, rfl⟩)
                    go_cut [14, 15, 16] from 91 to 104 (fun a b c wx => b = .int .i64 ((l.length - T'.length : Nat) : Int) ∧ c = .int .i64 ((c9 : Nat) : Int) ∧ (∃ Q, NdS wx Q a kd ∧ ∀ k, Q k → wm.heap.size ≤ k ∧ k < wx.heap.size) ∧ Bl wm wx)
                    case first =>
                      go_region_law (first
                        | (refine step_append_sts rfl (.tmp 94) (.tmp 95) 48 rfl wm.heap.size 9 s0 (.string ⟨#[]⟩) 16 Tryz.underlying48 hs hs0 hs1 hs2 rfl (.slice (some ⟨wm.heap.size, 0, none⟩) 0 0) 0 [] ?_ (own_bl' (World.ownsRow_made (base := wm.heap.size) (e := 9) (size := 1) wm #[] 0 (Nat.le_refl _) (by decide) rfl) (by repeat (first | exact Bl.refl _ | refine Bl.drew ?_ | refine Bl.alloc ?_ _))) (.slice na r.length nc) r.reverse (by simp [Act.eval]) (HS.out.of_bl (Bl.trans hbwm (by repeat (first | exact Bl.refl _ | refine Bl.drew ?_ | refine Bl.alloc ?_ _)))) (by unfold maxLen; simp; omega) (by simp; omega) (by first | omega | (simp; omega) | simp) ?_; (· simp [Act.eval]); intro v5 w5 hown5' hgrow5; have hbq : Bl wm w5 := Below.trans (show Bl wm _ from (by repeat (first | exact Bl.refl _ | refine Bl.drew ?_ | refine Bl.alloc ?_ _))) (bel_gr hgrow5 (fun j hj => by simp only [Value.ownBlock, Option.some.injEq] at hj; omega) (by first | omega | (simp; omega) | simp)); have hown5 : w5.ownsRow wm.heap.size 9 1 v5 r.length (strV r.reverse) := (by simpa using hown5'); clear hown5'; obtain ⟨aoc, coc, rfl, -⟩ := own_shp hown5; have hsq : wm.heap.size ≤ w5.heap.size := Below.size hbq; have p1 : w5.cell? ⟨wr.heap.size, 1, none⟩ = some (.string ⟨nm.toArray⟩) := (hbq.cells.1 wr.heap.size 1 hqx).trans z1; have hq5 : wr.heap.size < w5.heap.size := Nat.lt_of_lt_of_le hqx hsq)
                        | (refine step_append_sts rfl (.tmp 94) (.tmp 95) 48 rfl wm.heap.size 9 s0 (.string ⟨#[]⟩) 16 Tryz.underlying48 hs hs0 hs1 hs2 rfl (.slice (some ⟨wm.heap.size + 1, 0, none⟩) 0 0) 0 [] ?_ (own_bl' (by have := World.ownsRow_made (base := wm.heap.size) (e := 9) (size := 1) (wm.alloc (.cells #[.string ⟨nm.toArray⟩] 9)) #[] 0 (by simp) (by decide) rfl; simpa using this) (by repeat (first | exact Bl.refl _ | refine Bl.drew ?_ | refine Bl.alloc ?_ _))) (.slice na r.length nc) r.reverse (by simp [Act.eval]) (HS.out.of_bl (Bl.trans hbwm (by repeat (first | exact Bl.refl _ | refine Bl.drew ?_ | refine Bl.alloc ?_ _)))) (by unfold maxLen; simp; omega) (by simp; omega) (by first | omega | (simp; omega) | simp) ?_; (· simp [Act.eval]); intro v5 w5 hown5' hgrow5; have hbq : Bl wm w5 := Below.trans (show Bl wm _ from (by repeat (first | exact Bl.refl _ | refine Bl.drew ?_ | refine Bl.alloc ?_ _))) (bel_gr hgrow5 (fun j hj => by simp only [Value.ownBlock, Option.some.injEq] at hj; omega) (by first | omega | (simp; omega) | simp)); have hown5 : w5.ownsRow wm.heap.size 9 1 v5 r.length (strV r.reverse) := (by simpa using hown5'); clear hown5'; obtain ⟨aoc, coc, rfl, -⟩ := own_shp hown5; have hsq : wm.heap.size ≤ w5.heap.size := Below.size hbq; have p1 : w5.cell? ⟨wr.heap.size, 1, none⟩ = some (.string ⟨nm.toArray⟩) := (hbq.cells.1 wr.heap.size 1 hqx).trans z1; have hq5 : wr.heap.size < w5.heap.size := Nat.lt_of_lt_of_le hqx hsq)
                        | (refine step_append_own rfl (.tmp 96) (.tmp 99) 48 rfl wm.heap.size 9 s0 (.string ⟨#[]⟩) 1 16 Tryz.underlying48 hs hs0 hs1 hs2 rfl (by decide) (.slice aoc r.length coc) r.length (strV r.reverse) (by simp [Act.eval]) (own_bl' hown5 (by repeat (first | exact Bl.refl _ | refine Bl.drew ?_ | refine Bl.alloc ?_ _))) ⟨w5.heap.size, 0, none⟩ 1 1 [.string ⟨nm.toArray⟩] ?_ rfl (new_cells w5 #[.string ⟨nm.toArray⟩] _) (by simp [Value.oneCell']) (by unfold maxLen; omega) (by omega) (by first | omega | (simp; omega)) ?_; (· simp [Act.eval]); intro v9 w9 hown9 hgrow9; have hbz : Bl wm w9 := Below.trans (Bl.trans hbq (by repeat (first | exact Bl.refl _ | refine Bl.drew ?_ | refine Bl.alloc ?_ _))) (bel_gr hgrow9 (fun j hj => ((World.ownsRow.lt hown5) j hj).1) (by first | omega | (simp; omega))); obtain ⟨gv, cv, rfl, hcv⟩ := own_some hown9; have hst9 : StS w9 (.slice (some ⟨gv, 0, none⟩) (r.length + 1) cv) (nm :: r).reverse := own_sts' (n := r.length + 1) (by simp) (by rw [List.reverse_cons, strV_snoc]; exact hown9); clear hown9 hgrow9)
                        | (refine step_append_own rfl (.tmp 96) (.tmp 99) 48 rfl wm.heap.size 9 s0 (.string ⟨#[]⟩) 1 16 Tryz.underlying48 hs hs0 hs1 hs2 rfl (by decide) (.slice aoc r.length coc) r.length (strV r.reverse) (by simp [Act.eval]) (own_bl' hown5 (by repeat (first | exact Bl.refl _ | refine Bl.drew ?_ | refine Bl.alloc ?_ _))) ⟨wm.heap.size, 0, none⟩ 1 1 [.string ⟨nm.toArray⟩] ?_ rfl (one_news ((hgrow5.cell_far ⟨wm.heap.size, 0, none⟩ (by first | (simp; omega) | simp) (fun e => by simp [Value.ownBlock] at e <;> omega)).trans (by simp))) (by simp [Value.oneCell']) (by unfold maxLen; omega) (by omega) (by first | omega | (simp; omega)) ?_; (· simp [Act.eval]); intro v9 w9 hown9 hgrow9; have hbz : Bl wm w9 := Below.trans (Bl.trans hbq (by repeat (first | exact Bl.refl _ | refine Bl.drew ?_ | refine Bl.alloc ?_ _))) (bel_gr hgrow9 (fun j hj => ((World.ownsRow.lt hown5) j hj).1) (by first | omega | (simp; omega))); obtain ⟨gv, cv, rfl, hcv⟩ := own_some hown9; have hst9 : StS w9 (.slice (some ⟨gv, 0, none⟩) (r.length + 1) cv) (nm :: r).reverse := own_sts' (n := r.length + 1) (by simp) (by rw [List.reverse_cons, strV_snoc]; exact hown9); clear hown9 hgrow9)
                        | (refine step_append_own rfl (.tmp 96) (.tmp 99) 48 rfl wm.heap.size 9 s0 (.string ⟨#[]⟩) 1 16 Tryz.underlying48 hs hs0 hs1 hs2 rfl (by decide) (.slice aoc r.length coc) r.length (strV r.reverse) (by simp [Act.eval]) (own_bl' hown5 (by repeat (first | exact Bl.refl _ | refine Bl.drew ?_ | refine Bl.alloc ?_ _))) ⟨wm.heap.size + 1, 0, none⟩ 1 1 [.string ⟨nm.toArray⟩] ?_ rfl (one_news ((hgrow5.cell_far ⟨wm.heap.size + 1, 0, none⟩ (by first | (simp; omega) | simp) (fun e => by simp [Value.ownBlock] at e <;> omega)).trans (by simp))) (by simp [Value.oneCell']) (by unfold maxLen; omega) (by omega) (by first | omega | (simp; omega)) ?_; (· simp [Act.eval]); intro v9 w9 hown9 hgrow9; have hbz : Bl wm w9 := Below.trans (Bl.trans hbq (by repeat (first | exact Bl.refl _ | refine Bl.drew ?_ | refine Bl.alloc ?_ _))) (bel_gr hgrow9 (fun j hj => ((World.ownsRow.lt hown5) j hj).1) (by first | omega | (simp; omega))); obtain ⟨gv, cv, rfl, hcv⟩ := own_some hown9; have hst9 : StS w9 (.slice (some ⟨gv, 0, none⟩) (r.length + 1) cv) (nm :: r).reverse := own_sts' (n := r.length + 1) (by simp) (by rw [List.reverse_cons, strV_snoc]; exact hown9); clear hown9 hgrow9)
                        | (go_simp; go_at_call 8; (with_reducible refine (KC.out _ _ (by repeat (first | exact hbwm.trans hbz | refine Bl.drew ?_)) (by first | exact hst9 | exact hst9.of_bl (Bl.drew (Bl.refl _)))).mono ?_); rintro e w10 ⟨v10, rfl, ⟨Q10, hN10, hQ10⟩, hb10⟩; have hbc10 : Bl wm w10 := hbz.trans (Bl.trans (by repeat (first | exact Bl.refl _ | refine Bl.drew ?_ | refine Bl.alloc ?_ _)) hb10); have hsz9 := Below.size hbz))
                      all_goals
                        go_wp2_with fail
                        go_meet
                        case rel => exact ⟨rfl, rfl, ⟨Q10, hN10.of_bl (by repeat (first | exact Bl.refl _ | refine Bl.drew ?_)), fun k hk => ⟨Nat.le_trans hsz9 (by have := (hQ10 k hk).1; simpa using this), (hQ10 k hk).2⟩⟩, by repeat (first | exact hbc10 | refine Bl.drew ?_)⟩
                    case rest =>
                      obtain ⟨rfl, rfl, ⟨Q, hNk, hQ⟩, hbmc⟩ := hcut
                      have HNK := Lib.hid hNk
                      obtain ⟨ak, ck, rfl, -⟩ := hNk
                      have HN3 : Nx wc q2 nm (.slice ao2 al.length cc2) := (Below.block hbmc q2 hm4.2).trans HN2.out
                      obtain ⟨n0, n1, n2, n3⟩ := HN3.cells
                      obtain ⟨n4, n5⟩ := HN3.froz
                      have hsm := Below.size hbmc
                      have hnot : ∀ k, (P k ∨ P2 k) ∨ Q k → k ≠ q2 := by
                        intro k hk e
                        subst e
                        rcases hk with (h | h) | h
                        · have := (HP.out _ h).2; omega
                        · exact (HQ2.out _ h).2.2 rfl
                        · have := (hQ _ h).1; have := hm4.2; omega
                      have hst : Still (fun k => ((P k ∨ P2 k) ∨ Q k) ∨ u9.ownBlock = some k) wc (wc.setCell ⟨q2, 3, none⟩ (.slice ak kd.length ck)) := Still.set _ _ _ _ (fun h => h.elim (fun h => hnot _ h rfl) (fun h => by have := (hul _ h).2; omega))
                      have H3 := Lib.hid (show NdO (wc.setCell ⟨q2, 3, none⟩ (.slice ak kd.length ck)) w.heap.size (fun k => (P k ∨ P2 k) ∨ Q k) u9 out ents from ((HO2.out.of_bl hbmc).mono (fun k h => .inl h) (fun k e h => h.elim (HO2.out.low k e) (fun h => by have := (hul k e).2; have := (hQ k h).1; omega))).still hst)
                      have HA3 := Lib.hid (((HA2.out.still (Still.of_bl hbmc)).mono (Q := fun k => (P k ∨ P2 k) ∨ Q k) (fun k h => .inl (.inr h))).still (hst.mono fun k h => .inl h))
                      have HK3 := Lib.hid ((HNK.out.mono (Q := fun k => (P k ∨ P2 k) ∨ Q k) (fun k h => .inr h)).still (hst.mono fun k h => .inl h))
                      have HP3 := Lib.hid (show ∀ k, ((P k ∨ P2 k) ∨ Q k) → w.heap.size ≤ k ∧ k < wc.heap.size from fun k hk => hk.elim (fun h => ⟨(HP2.out k h).1, by have := (HP2.out k h).2; omega⟩) (fun h => ⟨by have := (hQ k h).1; omega, (hQ k h).2⟩))
                      have hby : Bl w (wc.setCell ⟨q2, 3, none⟩ (.slice ak kd.length ck)) := Below.setCell (hbwm.trans hbmc) (show w.heap.size ≤ q2 by have := Below.size hbw1; omega) _
                      have hw9 : wtL (out ++ [.mk nm al [] kd]) = wtL out + (1 + nm.length + wtA al + wtL kd) := by rw [wt_app]; simp [wtL, wtN]
                      clear HNK HN3 HN2 HA2 hnot hst m0 m1 m2 m3
                      by_cases hc9 : c9 < r.length
                      · have hc9' : ((c9 : Nat) : Int) < (r.length : Int) := by omega
                        have HXR := Lib.hid (show bl r (l.drop a0) [] = (out ++ [.mk nm al [] kd], T', c9) by rw [HXN.out, if_pos hc9])
                        clear hc9
                        go_wp2_with (at_builtin; refine Hid.out ?_)
                        refine Lib.hid ?_
                        refine wpList_append_gr _ rfl _ _ 23 rfl w.heap.size 51 i0 (.agg #[.string ⟨#[]⟩, .slice none 0 0, .string ⟨#[]⟩, .slice none 0 0]) 4 80 Tryz.underlying23 hi hz0 hz1 hz2 rfl (by decide) u9 ents.length (ndV ents) rfl (own_bl H3.out.row (by repeat (first | exact Bl.refl _ | refine Bl.drew ?_ | refine Bl.alloc ?_ _))) ⟨wc.heap.size, 0, none⟩ 1 1 [.string ⟨nm.toArray⟩, .slice ao2 al.length cc2, .string ⟨#[]⟩, .slice ak kd.length ck] rfl rfl (by have := new_cells (wc.setCell ⟨q2, 3, none⟩ (.slice ak kd.length ck)) #[.string ⟨nm.toArray⟩, .slice ao2 al.length cc2, .string ⟨#[]⟩, .slice ak kd.length ck] 51; simpa using this) (by simp [Value.oneCell']) (by decide) (by unfold maxLen; omega) (by omega) (by simp; omega) ?_
                        intro v' wz hown hg
                        obtain ⟨g1, g2⟩ := jt_more (.mk nm al [] kd) H3.out (fun k hk => by have := (HP3.out k hk).2; simpa using this) (by simp; omega) (by repeat (first | exact Bl.refl _ | refine Bl.drew ?_ | refine Bl.alloc ?_ _)) (HA3.out.still (Still.of_bl (by repeat (first | exact Bl.refl _ | refine Bl.drew ?_ | refine Bl.alloc ?_ _)))) (HK3.out.still (Still.of_bl (by repeat (first | exact Bl.refl _ | refine Bl.drew ?_ | refine Bl.alloc ?_ _)))) hown hg
                        clear hown hg
                        go_wp2
                        go_ret3
                        obtain ⟨d1, d2, d3⟩ := bl_ret HXR.out rfl
                        exact ⟨_, by rw [d1, d2]; rfl, ⟨_, by rw [d3]; exact g1.nds, fun k hk => by rcases hk with hk | hk; exact ⟨(HP3.out k hk).1, Nat.lt_of_lt_of_le (HP3.out k hk).2 (by have := Below.size g2; simp at this; have := g2.size; simp at this; omega)⟩; exact g1.lt k hk⟩, Below.trans hby g2⟩
                      · have hc9' : ¬ ((c9 : Nat) : Int) < (r.length : Int) := by omega
                        have HXR := Lib.hid (show bl r (l.drop a0) [] = bl r (l.drop (l.length - T'.length)) (out ++ [.mk nm al [] kd]) by rw [HXN.out, if_neg hc9]; exact congrArg (fun z => bl r z _) HBD.out)
                        clear hc9
                        go_wp2_with (at_builtin; refine Hid.out ?_)
                        refine Lib.hid ?_
                        refine wpList_append_gr _ rfl _ _ 23 rfl w.heap.size 51 i0 (.agg #[.string ⟨#[]⟩, .slice none 0 0, .string ⟨#[]⟩, .slice none 0 0]) 4 80 Tryz.underlying23 hi hz0 hz1 hz2 rfl (by decide) u9 ents.length (ndV ents) rfl (own_bl H3.out.row (by repeat (first | exact Bl.refl _ | refine Bl.drew ?_ | refine Bl.alloc ?_ _))) ⟨wc.heap.size, 0, none⟩ 1 1 [.string ⟨nm.toArray⟩, .slice ao2 al.length cc2, .string ⟨#[]⟩, .slice ak kd.length ck] rfl rfl (by have := new_cells (wc.setCell ⟨q2, 3, none⟩ (.slice ak kd.length ck)) #[.string ⟨nm.toArray⟩, .slice ao2 al.length cc2, .string ⟨#[]⟩, .slice ak kd.length ck] 51; simpa using this) (by simp [Value.oneCell']) (by decide) (by unfold maxLen; omega) (by omega) (by simp; omega) ?_
                        intro v' wz hown hg
                        obtain ⟨g1, g2⟩ := jt_more (.mk nm al [] kd) H3.out (fun k hk => by have := (HP3.out k hk).2; simpa using this) (by simp; omega) (by repeat (first | exact Bl.refl _ | refine Bl.drew ?_ | refine Bl.alloc ?_ _)) (HA3.out.still (Still.of_bl (by repeat (first | exact Bl.refl _ | refine Bl.drew ?_ | refine Bl.alloc ?_ _)))) (HK3.out.still (Still.of_bl (by repeat (first | exact Bl.refl _ | refine Bl.drew ?_ | refine Bl.alloc ?_ _)))) hown hg
                        clear hown hg
                        go_wp2
                        go_roundw
                        case rel => exact ⟨l.length - T'.length, _, _, _, rfl, by omega, by omega, HXR, Lib.hid (by rw [hw9, ← HBD.out]; omega), Lib.hid g1, Lib.hid (fun k hk => ⟨(HP3.out k hk).1, Nat.lt_of_lt_of_le (HP3.out k hk).2 (by have := g2.size; simp at this; omega)⟩), Below.trans hby g2⟩
                        case measure => simp [intOf]; omega
                  · rw [hem] at EC
                    have HXE := Lib.hid (show bl r (l.drop a0) [] = bl r (l.drop (at2 + 1)) (out ++ [.mk nm al [] []]) by rw [HX.out, if_pos hem])
                    have hw9 : wtL (out ++ [.mk nm al [] []]) = wtL out + (1 + nm.length + wtA al) := by rw [wt_app]; simp [wtL, wtN]
                    clear hem HX
                    go_wp2_with (first | (go_at_call 25; (with_reducible refine (EC.out _).mono ?_); rintro e w5 ⟨rfl, rfl⟩) | (at_builtin; refine Hid.out ?_))
                    refine Lib.hid ?_
                    refine wpList_append_gr _ rfl _ _ 23 rfl w.heap.size 51 i0 (.agg #[.string ⟨#[]⟩, .slice none 0 0, .string ⟨#[]⟩, .slice none 0 0]) 4 80 Tryz.underlying23 hi hz0 hz1 hz2 rfl (by decide) u9 ents.length (ndV ents) rfl (own_bl HO2.out.row (by repeat (first | exact Bl.refl _ | refine Bl.drew ?_ | refine Bl.alloc ?_ _))) ⟨wm.heap.size, 0, none⟩ 1 1 [.string ⟨nm.toArray⟩, .slice ao2 al.length cc2, .string ⟨#[]⟩, .slice none 0 0] rfl rfl (new_cells wm #[.string ⟨nm.toArray⟩, .slice ao2 al.length cc2, .string ⟨#[]⟩, .slice none 0 0] _) (by simp [Value.oneCell']) (by decide) (by unfold maxLen; omega) (by omega) (by simp; omega) ?_
                    intro v' wz hown hg
                    obtain ⟨g1, g2⟩ := jt_more (.mk nm al [] []) HO2.out (fun k hk => (HP2.out k hk).2) hsw (by repeat (first | exact Bl.refl _ | refine Bl.drew ?_ | refine Bl.alloc ?_ _)) ((HA2.out.mono (fun k h => .inr h)).still (Still.of_bl (by repeat (first | exact Bl.refl _ | refine Bl.drew ?_ | refine Bl.alloc ?_ _)))) (NdS.nil _ _) hown hg
                    clear hown hg
                    go_wp2
                    go_roundw
                    case rel => exact ⟨at2 + 1, _, _, _, by go_num, by omega, by omega, HXE, Lib.hid (by rw [hw9]; omega), Lib.hid g1, Lib.hid (fun k hk => ⟨(HP2.out k hk).1, Nat.lt_of_lt_of_le (HP2.out k hk).2 g2.size⟩), Below.trans hbwm g2⟩
                    case measure => simp [intOf]; omega
      · have hat2 : at2 = l.length := by omega
        have HX := Lib.hid (show bl r (l.drop a0) [] = (out, [], r.length) by rw [HE.out, List.drop_eq_nil_of_le (by omega), bl_nil])
        go_wp2
        go_ret3
        obtain ⟨c1, c2, c3⟩ := bl_ret HX.out (show l.length - ([] : List Tok).length = at2 by simp [hat2])
        exact ⟨_, by rw [c1, c2]; rfl, ⟨_, by rw [c3]; exact HO.out.nds, fun k hk => by rcases hk with hk | hk; exact HP.out k hk; exact HO.out.lt k hk⟩, hb⟩
end Go.Proofs.YtjclpmpphkmpdaaGreatDoor

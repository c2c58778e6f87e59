/- Trees: check of the program. -/
import Derived.Test.YtjclpmpphkmpdaaGreatDoorTreS
namespace Go.Proofs.YtjclpmpphkmpdaaGreatDoor
open Go.RowKit

/-- Is the node ahead of that place a text? -/
def pvT (l : List Nd) (k : Nat) : Bool := match k with | 0 => false | j + 1 => (l[j]?.map (fun d => decide (d.n = []))).getD false
theorem ckL_step (r : List Nm) (p : Bool) (d : Nd) (l : List Nd) : ckL r p (d :: l) = if ndE r d ≠ 0 then ndE r d else if p = true ∧ d.n = [] then 4 else if ckL (d.n :: r) false d.k ≠ 0 then ckL (d.n :: r) false d.k else ckL r (decide (d.n = [])) l := by
  cases d with
  | mk n a x k =>
    have hc : ckN r p (.mk n a x k) = if ndE r (.mk n a x k) ≠ 0 then ndE r (.mk n a x k) else if p = true ∧ n = [] then 4 else ckL (n :: r) false k := rfl
    have ho : ckL r p (.mk n a x k :: l) = if ckN r p (.mk n a x k) ≠ 0 then ckN r p (.mk n a x k) else ckL r (decide (n = [])) l := rfl
    rw [ho]
    show _ = if ndE r (.mk n a x k) ≠ 0 then ndE r (.mk n a x k) else if p = true ∧ n = [] then 4 else if ckL (n :: r) false k ≠ 0 then ckL (n :: r) false k else ckL r (decide (n = [])) l
    by_cases h1 : ndE r (.mk n a x k) = 0
    · rw [if_neg (fun h => h h1)] at hc
      rw [if_neg (show ¬ ndE r (.mk n a x k) ≠ 0 from fun h => h h1)]
      by_cases h2 : p = true ∧ n = []
      · rw [if_pos h2] at hc
        rw [if_pos h2, if_pos (by rw [hc]; decide), hc]
      · rw [if_neg h2] at hc
        rw [if_neg h2]
        by_cases h3 : ckL (n :: r) false k = 0
        · rw [if_neg (by rw [hc, h3]; simp), if_neg (fun h => h h3)]
        · rw [if_pos (by rw [hc]; exact h3), if_pos h3, hc]
    · rw [if_pos h1] at hc
      rw [if_pos (show ndE r (.mk n a x k) ≠ 0 from h1), if_pos (by rw [hc]; exact h1), hc]
theorem one_news {w : World} {g : Nat} {v : Value} (h : w.cell? ⟨g, 0, none⟩ = some v) : ∀ j u, [v][j]? = some u → w.cell? ((⟨g, 0, none⟩ : Addr).add j) = some u := by
  intro j u hj
  rw [addr_at, Nat.zero_add]
  cases j with
  | zero => simp only [List.getElem?_cons_zero, Option.some.injEq] at hj; subst hj; exact h
  | succ j => simp at hj
theorem own_baseT {w : World} {base base' : Nat} {e : TypeId} {size : Nat} {v : Value} {n : Nat} {xs : List Value} (h : w.ownsRow base e size v n xs) (hb : base' ≤ base) : w.ownsRow base' e size v n xs := ⟨h.1, h.2.imp id fun ⟨g, c, cur, h1, h2, h3⟩ => ⟨g, c, cur, h1, Nat.le_trans hb h2, h3⟩⟩
theorem own_sts' {w : World} {base : Nat} {v : Value} {l : List Nm} {n : Nat} (hn : n = l.length) (h : w.ownsRow base 9 1 v n (strV l)) : StS w v l := by subst hn; exact own_sts h
set_option maxRecDepth 100000 in
set_option maxHeartbeats 8000000 in
theorem chk_c (N : Nat) : ∀ (l : List Nd) (r : List Nm) (v vn : Value) (P : Nat → Prop) (w : World), wtL l < N → N + r.length ≤ 10000000 → NdS w P v l → StS w vn r.reverse →
    Calls Tryz.prog 32 #[v, vn] w fun e w' => e = .returned (.int .i64 (ckL r false l)) ∧ Bl w w' := by
  induction N with
  | zero => intro l r v vn P w h; omega
  | succ N ih =>
    intro l r v vn P w hN hN2 hA hS
    obtain ⟨i0, hi, hz0, hz1, hz2⟩ := info_parts Tryz.infoStr
    obtain ⟨ao, cap, rfl, hcap, hA⟩ := hA.get
    have hll := cnt_len l
    have hlc := wt_cnt l
    have IH := Lib.hid ih
    have HA := Lib.hid hA
    have HS := Lib.hid hS
    have HN := Lib.hid hN
    obtain ⟨na, nc, rfl⟩ : ∃ b c, vn = .slice b r.length c := by obtain ⟨b, c, e, -⟩ := hS; exact ⟨b, c, by simpa using e⟩
    clear ih hA hS hN
    go_enter Tryz.func32, Tryz.ntmps32
    go_wp2
    go_loopw [11] (fun i wr => ∃ k : Nat, k ≤ l.length ∧ i = .int .i64 k ∧ Hid (ckL r false l = ckL r (pvT l k) (l.drop k)) ∧ Bl w wr) (fun i _ => l.length - (intOf i).toNat)
    case atStart => exact ⟨0, Nat.zero_le _, rfl, Lib.hid rfl, Bl.refl _⟩
    case round =>
      obtain ⟨k, hk, rfl, HP, hb⟩ := hrel
      by_cases hlt : k < l.length
      · obtain ⟨g, o, va, vk, rfl, hg, -, h1, h2, h3, h4, h5, h6⟩ := HA.out k hlt
        have y1 := (hb.cells.1 g _ hg).trans h1
        have y2 := (hb.cells.1 g _ hg).trans h2
        have y3 := (hb.cells.1 g _ hg).trans h3
        have y4 := (hb.cells.1 g _ hg).trans h4
        have hgr : g < wr.heap.size := Nat.lt_of_lt_of_le hg (Below.size hb)
        have hwt := wt_get l k hlt
        have hN3 := HN.out
        have HE := Lib.hid (show ckL r false l = _ from by rw [HP.out, List.drop_eq_getElem_cons hlt, ckL_step])
        have hwk := wt_cnt l[k].k
        have hwl := cnt_len l[k].k
        have NC := Lib.hid (fun W (hbW : Bl wr W) => node_c l[k] va vk (.slice na r.length nc) r P W (by omega) (by have := wtA_len l[k].a; omega) (fun a ha => by have := wtA_get l[k].a a ha; omega) (by omega) (by omega) ((h5.still (Still.of_bl hb)).still (Still.of_bl hbW)) (by obtain ⟨a, c, e, -⟩ := h6; exact ⟨a, c, e⟩) ((HS.out.of_bl hb).of_bl hbW))
        have SC := Lib.hid (fun W (hbW : Bl wr W) => (show Calls Tryz.prog 42 #[.slice na r.length nc] W (fun e w' => ∃ v', e = .returned v' ∧ w'.ownsRow W.heap.size 9 1 v' r.length (strV r.reverse) ∧ Bl W w') from by have := cloneS_c r.reverse (.slice na r.length nc) (by simp; omega) W ((HS.out.of_bl hb).of_bl hbW); rw [List.length_reverse] at this; exact this))
        have KC := Lib.hid (fun W vn' (hbW : Bl wr W) (hs : StS W vn' (l[k].n :: r).reverse) => IH.out l[k].k (l[k].n :: r) vk vn' P W (by omega) (by simp; omega) ((h6.of_bl hb).of_bl hbW) hs)
        obtain ⟨a1, n1, c1, rfl⟩ : ∃ a n c, va = .slice a n c := by obtain ⟨a, c, e, -⟩ := h5; exact ⟨a, _, c, e⟩
        obtain ⟨a2, c2, rfl⟩ : ∃ a c, vk = .slice a l[k].k.length c := by obtain ⟨a, c, e, -⟩ := h6; exact ⟨a, c, e⟩
        have hprev : 0 < k → ∃ q, wr.cell? ⟨g, o + (k - 1) * 4, none⟩ = some (.string ⟨q.toArray⟩) ∧ pvT l k = decide (q = []) := by
          intro hk0
          obtain ⟨g2, o2, _, _, e, hg2, _, x1, _⟩ := HA.out (k - 1) (by omega)
          cases e
          obtain ⟨j, rfl⟩ : ∃ j, k = j + 1 := ⟨k - 1, by omega⟩
          refine ⟨_, (hb.cells.1 g _ hg).trans x1, ?_⟩
          simp [pvT, show j < l.length by omega]
        clear h1 h2 h3 h4 h5 h6
        by_cases he : ndE r l[k] = 0
        · rw [he] at NC
          have HE2 := Lib.hid (show ckL r false l = _ from by rw [HE.out, if_neg (by simp [he])])
          have hK3 : Hid (∀ W vn', Bl wr W → StS W vn' (l[k].n :: r).reverse → Calls Tryz.prog 32 #[.slice a2 l[k].k.length c2, vn'] W fun e w' => e = .returned (.int .i64 (ckL (l[k].n :: r) false l[k].k)) ∧ Bl W w') := Lib.hid (fun W vn' h1 h2 => KC.out W vn' h1 h2)
          clear he HE KC
          have hkr : r.length ≤ 10000000 := by omega
          have hgr2 := hgr
          have hcase : (∃ pq : Nm, 0 < k ∧ l[k].n.isEmpty = true ∧ pq.isEmpty = true ∧ wr.cell? ⟨g, o + (k - 1) * 4, none⟩ = some (.string ⟨pq.toArray⟩) ∧ Hid (ckL r false l = 4)) ∨
              ((0 : Int) < (k : Int) ∧ l[k].n.isEmpty = false ∧ Hid (ckL r false l = if ckL (l[k].n :: r) false l[k].k ≠ 0 then ckL (l[k].n :: r) false l[k].k else ckL r (decide (l[k].n = [])) (l.drop (k + 1)))) ∨
              (¬ (0 : Int) < (k : Int) ∧ Hid (ckL r false l = if ckL (l[k].n :: r) false l[k].k ≠ 0 then ckL (l[k].n :: r) false l[k].k else ckL r (decide (l[k].n = [])) (l.drop (k + 1)))) ∨
              (∃ pq : Nm, 0 < k ∧ l[k].n.isEmpty = true ∧ pq.isEmpty = false ∧ wr.cell? ⟨g, o + (k - 1) * 4, none⟩ = some (.string ⟨pq.toArray⟩) ∧ Hid (ckL r false l = if ckL (l[k].n :: r) false l[k].k ≠ 0 then ckL (l[k].n :: r) false l[k].k else ckL r (decide (l[k].n = [])) (l.drop (k + 1)))) := by
            by_cases hn : l[k].n = []
            · by_cases hk1 : 0 < k
              · obtain ⟨pq, hp1, hp2⟩ := hprev hk1
                by_cases hpe : pq = []
                · exact .inl ⟨pq, hk1, by simp [hn], by simp [hpe], hp1, Lib.hid (by rw [HE2.out, if_pos ⟨by rw [hp2]; simpa using hpe, hn⟩])⟩
                · exact .inr (.inr (.inr ⟨pq, hk1, by simp [hn], by simpa using hpe, hp1, Lib.hid (by rw [HE2.out, if_neg (fun h => by rw [hp2] at h; exact hpe (by simpa using h.1))])⟩))
              · exact .inr (.inr (.inl ⟨by omega, Lib.hid (by rw [HE2.out, if_neg (fun h => by have h1 := h.1; rw [show k = 0 by omega] at h1; simp [pvT] at h1)])⟩))
            · have hne : l[k].n.isEmpty = false := by cases e : l[k].n <;> simp_all
              have hx := Lib.hid (show ckL r false l = _ from by rw [HE2.out, if_neg (fun h => hn h.2)])
              by_cases hk1 : 0 < k
              · exact .inr (.inl ⟨by omega, hne, hx⟩)
              · exact .inr (.inr (.inl ⟨by omega, hx⟩))
          clear HE2 hprev
          rcases hcase with ⟨pq, hk1, hne, hpe, hp1, HR⟩ | hcase
          · have hk1' : (0 : Int) < (k : Int) := by omega
            go_wp2_with (go_at_call 41; (with_reducible refine (NC.out _ ((Bl.refl _).alloc _)).mono ?_); rintro e w1 ⟨rfl, hb1⟩; have hw1 : Bl wr w1 := ((Bl.refl wr).alloc _).trans hb1; have hsz1 : wr.heap.size < w1.heap.size := (by have a1 := Below.size hb1; simp at a1; omega); have q0 : w1.cell? ⟨wr.heap.size, 0, none⟩ = some (.string ⟨l[k].n.toArray⟩) := (hb1.cells.1 wr.heap.size 0 (by simp)).trans (by simp); (try have q7 := (hw1.cells.1 g _ hgr).trans hp1); have q3 : w1.cell? ⟨wr.heap.size, 3, none⟩ = some (.slice a2 l[k].k.length c2) := (hb1.cells.1 wr.heap.size 3 (by simp)).trans (by simp))
            go_ret
            exact ⟨ret_int HR.out.symm, hb.trans hw1⟩
          have HE3 : Hid (ckL r false l = if ckL (l[k].n :: r) false l[k].k ≠ 0 then ckL (l[k].n :: r) false l[k].k else ckL r (decide (l[k].n = [])) (l.drop (k + 1))) := by
            rcases hcase with ⟨_, _, h⟩ | ⟨_, h⟩ | ⟨_, _, _, _, _, h⟩ <;> exact h
          have hpv := Lib.hid (show pvT l (k + 1) = decide (l[k].n = []) by simp [pvT, hlt])
          rcases hcase with ⟨hk1, hne, -⟩ | ⟨hk1, -⟩ | ⟨pq, hk0, hne, hpe, hp1, -⟩
          all_goals
            (try have hk1 : (0 : Int) < (k : Int) := by omega)
            go_upto_region 9 with (go_at_call 41; (with_reducible refine (NC.out _ ((Bl.refl _).alloc _)).mono ?_); rintro e w1 ⟨rfl, hb1⟩; have hw1 : Bl wr w1 := ((Bl.refl wr).alloc _).trans hb1; have hsz1 : wr.heap.size < w1.heap.size := (by have a1 := Below.size hb1; simp at a1; omega); have q0 : w1.cell? ⟨wr.heap.size, 0, none⟩ = some (.string ⟨l[k].n.toArray⟩) := (hb1.cells.1 wr.heap.size 0 (by simp)).trans (by simp); (try have q7 := (hw1.cells.1 g _ hgr).trans hp1); have q3 : w1.cell? ⟨wr.heap.size, 3, none⟩ = some (.slice a2 l[k].k.length c2) := (hb1.cells.1 wr.heap.size 3 (by simp)).trans (by simp))
            go_cut [8] from 38 to 46 (fun t wx => t = .int .i64 (ckL (l[k].n :: r) false l[k].k) ∧ Bl w wx)
            case first =>
              go_region_law (first | (refine step_append_gr rfl (.tmp 41) (.tmp 44) 48 rfl w1.heap.size 9 i0 (.string ⟨#[]⟩) 1 16 Tryz.underlying48 hi hz0 hz1 hz2 rfl (by decide) (.slice aoc r.length coc) r.length (strV r.reverse) (by simp [Act.eval]) (own_bl' hown2 (by repeat (first | exact Bl.refl _ | refine Bl.drew ?_ | refine Bl.alloc ?_ _))) ⟨w2.heap.size, 0, none⟩ 1 1 [.string ⟨l[k].n.toArray⟩] (by simp [Act.eval]) rfl (new_cells w2 #[.string ⟨l[k].n.toArray⟩] _) (by simp [Value.oneCell']) (by decide) (by unfold maxLen; omega) (by omega) (by first | omega | (simp; omega)) ?_; intro v' wz hown3 hgr; obtain ⟨gv, cv, rfl, hcv⟩ := own_some hown3; have hst3 : StS wz (.slice (some ⟨gv, 0, none⟩) (r.length + 1) cv) (l[k].n :: r).reverse := own_sts' (n := r.length + 1) (by simp) (by rw [List.reverse_cons, strV_snoc]; exact hown3); have hw3 : Bl w1 wz := (hgr.of_bl (w := w1) (by repeat (first | exact hbq | refine Bl.drew ?_ | refine Bl.alloc ?_ _))).below (fun j hj => (World.ownsRow.lt hown2 j hj).1) (Nat.le_refl _); have hsz5 : wr.heap.size < wz.heap.size := (by have a1 := Below.size hb1; have a2 := Below.size hw3; simp at a1; omega); have q10 : wz.cell? ⟨wr.heap.size, 3, none⟩ = some (.slice a2 l[k].k.length c2) := (hw3.cells.1 wr.heap.size 3 (by have := Below.size hb1; simp at this; omega)).trans q3; clear hown3 hgr) | (go_simp; go_at_call 42; (with_reducible refine (SC.out _ (by repeat (first | exact hw1 | refine Bl.drew ?_ | refine Bl.alloc ?_ _))).mono ?_); rintro e w2 ⟨vc2, rfl, hown2', hb2⟩; have hown2 : w2.ownsRow w1.heap.size 9 1 vc2 r.length (strV r.reverse) := own_baseT hown2' (by simp); clear hown2'; obtain ⟨aoc, coc, rfl, -⟩ := own_shp hown2; have hbq : Bl w1 w2 := Bl.trans (by repeat (first | exact Bl.refl _ | refine Bl.drew ?_ | refine Bl.alloc ?_ _)) hb2; have hsz2 : w1.heap.size ≤ w2.heap.size := Below.size hbq; have hsz4 : wr.heap.size < w2.heap.size := (by have := Below.size hb1; simp at this; omega); have q5 : w2.cell? ⟨wr.heap.size, 0, none⟩ = some (.string ⟨l[k].n.toArray⟩) := (hbq.cells.1 wr.heap.size 0 (by have := Below.size hb1; simp at this; omega)).trans q0; have q8 : w2.cell? ⟨wr.heap.size, 3, none⟩ = some (.slice a2 l[k].k.length c2) := (hbq.cells.1 wr.heap.size 3 (by have := Below.size hb1; simp at this; omega)).trans q3) | (go_simp; go_at_call 32; (with_reducible refine (hK3.out _ _ (by first | exact hw1.trans hw3 | exact Bl.drew (hw1.trans hw3)) (by first | exact hst3 | exact hst3.of_bl (Bl.drew (Bl.refl _)))).mono ?_); rintro e w4 ⟨rfl, hb4⟩) | (refine step_append_gr rfl (.tmp 41) (.tmp 44) 48 rfl w1.heap.size 9 i0 (.string ⟨#[]⟩) 1 16 Tryz.underlying48 hi hz0 hz1 hz2 rfl (by decide) (.slice aoc r.length coc) r.length (strV r.reverse) (by simp [Act.eval]) (own_bl' hown2 (by repeat (first | exact Bl.refl _ | refine Bl.drew ?_ | refine Bl.alloc ?_ _))) ⟨w1.heap.size, 0, none⟩ 1 1 [.string ⟨l[k].n.toArray⟩] (by simp [Act.eval]) rfl (one_news (show w2.cell? ⟨w1.heap.size, 0, none⟩ = some (.string ⟨l[k].n.toArray⟩) from (hb2.cells.1 w1.heap.size 0 (by simp)).trans (by simp))) (by simp [Value.oneCell']) (by decide) (by unfold maxLen; omega) (by omega) (by first | omega | (simp; omega)) ?_; intro v' wz hown3 hgr; obtain ⟨gv, cv, rfl, hcv⟩ := own_some hown3; have hst3 : StS wz (.slice (some ⟨gv, 0, none⟩) (r.length + 1) cv) (l[k].n :: r).reverse := own_sts' (n := r.length + 1) (by simp) (by rw [List.reverse_cons, strV_snoc]; exact hown3); have hw3 : Bl w1 wz := (hgr.of_bl (w := w1) (by repeat (first | exact hbq | refine Bl.drew ?_ | refine Bl.alloc ?_ _))).below (fun j hj => (World.ownsRow.lt hown2 j hj).1) (Nat.le_refl _); have hsz5 : wr.heap.size < wz.heap.size := (by have a1 := Below.size hb1; have a2 := Below.size hw3; simp at a1; omega); have q10 : wz.cell? ⟨wr.heap.size, 3, none⟩ = some (.slice a2 l[k].k.length c2) := (hw3.cells.1 wr.heap.size 3 (by have := Below.size hb1; simp at this; omega)).trans q3; clear hown3 hgr))
              all_goals
                go_wp2_with fail
                go_meet
                case rel => exact ⟨rfl, by repeat (first | exact hb.trans (hw1.trans (hw3.trans (Bl.trans (by repeat (first | exact Bl.refl _ | refine Bl.drew ?_)) hb4))) | refine Bl.drew ?_)⟩
            case rest =>
              obtain ⟨rfl, hb5⟩ := hcut
              obtain ⟨q, hq⟩ : ∃ q, q = ckL (l[k].n :: r) false l[k].k := ⟨_, rfl⟩
              rw [← hq] at HE3
              rw [← hq]
              clear hq
              by_cases hq0 : q = 0
              · have HX := Lib.hid (show ckL r false l = _ from by rw [HE3.out, if_neg (fun h => h hq0)])
                subst hq0
                go_wp2
                go_roundw
                case rel => exact ⟨k + 1, by omega, by go_num, Lib.hid (by rw [HX.out, hpv.out]), hb5⟩
                case measure => simp [intOf]; omega
              · have HX := Lib.hid (show ckL r false l = q by rw [HE3.out, if_pos hq0])
                have hq2 : (q != 0) = true := by simpa using hq0
                have hq3 : (q == 0) = false := by simpa using hq0
                clear hq0
                go_wp2
                go_ret
                exact ⟨ret_int HX.out.symm, hb5⟩
        · have HR := Lib.hid (show ckL r false l = ndE r l[k] by rw [HE.out, if_pos he])
          obtain ⟨q, hq⟩ : ∃ q, q = ndE r l[k] := ⟨_, rfl⟩
          rw [← hq] at NC he HR
          have hq2 : (q != 0) = true := by simpa using he
          have hq3 : (q == 0) = false := by simpa using he
          clear hq he hprev
          go_wp2_with (go_at_call 41; (with_reducible refine (NC.out _ ((Bl.refl _).alloc _)).mono ?_); rintro e w1 ⟨rfl, hb1⟩)
          go_ret
          exact ⟨ret_int HR.out.symm, hb.trans (((Bl.refl _).alloc _).trans hb1)⟩
      · have HE := Lib.hid (show ckL r false l = 0 by rw [HP.out, List.drop_eq_nil_of_le (by omega)]; rfl)
        go_wp2
        go_ret
        exact ⟨ret_int HE.out.symm, hb⟩
end Go.Proofs.YtjclpmpphkmpdaaGreatDoor

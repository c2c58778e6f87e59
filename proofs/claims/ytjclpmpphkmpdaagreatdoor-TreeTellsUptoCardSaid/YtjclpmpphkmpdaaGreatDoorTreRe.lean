/- Trees: the reference's checkNodes (printed by gen_checknodes.py). -/
import Derived.Test.YtjclpmpphkmpdaaGreatDoorGrpQ
namespace Go.Proofs.YtjclpmpphkmpdaaGreatDoor
open Go.RowKit

set_option maxRecDepth 100000 in
set_option maxHeartbeats 16000000 in
theorem checkNodes_c (N : Nat) : ∀ (l : List Nd) (r : List Nm) (v vn : Value) (P : Nat → Prop) (w : World), wtL l < N → N + r.length ≤ 10000000 → NdS w P v l → StS w vn r.reverse →
    Calls Tryz.prog 22 #[v, vn] w fun e w' => e = .returned (.int .i64 (ckL r false l)) ∧ Bl w w' := by
  induction N with
  | zero => intro l r v vn P w h; omega
  | succ N ih =>
    intro l r v vn P w hN hN2 hA hS
    obtain ⟨s0, hs, hs0, hs1, hs2⟩ := info_parts Tryz.infoStr
    obtain ⟨ao, cap, rfl, hcap, hA⟩ := hA.get
    have hll := cnt_len l
    have hlc := wt_cnt l
    have IH := Lib.hid ih
    have HA := Lib.hid hA
    have HS := Lib.hid hS
    have HN := Lib.hid hN
    obtain ⟨na, nc, rfl⟩ : ∃ b c, vn = .slice b r.length c := by obtain ⟨b, c, e, -⟩ := hS; exact ⟨b, c, by simpa using e⟩
    clear ih hA hS hN
    go_enter Tryz.func22, Tryz.ntmps22
    go_wp2
    go_loopw [5] (fun i wr => ∃ k : Nat, k ≤ l.length ∧ i = .int .i64 k ∧ Hid (ckL r false l = ckL r (pvT l k) (l.drop k)) ∧ Bl w wr) (fun i _ => l.length - (intOf i).toNat)
    case atStart => exact ⟨0, Nat.zero_le _, rfl, Lib.hid rfl, Bl.refl _⟩
    case round =>
      obtain ⟨k, hk, rfl, HP, hb⟩ := hrel
      by_cases hlt : k < l.length
      · obtain ⟨g, o, va, vk, rfl, hg, -, h1, h2, h3, h4, h5, h6⟩ := HA.out k hlt
        have hwt := wt_get l k hlt
        have hN3 := HN.out
        have HE := Lib.hid (show ckL r false l = _ from by rw [HP.out, List.drop_eq_getElem_cons hlt])
        have hpv := Lib.hid (show pvT l (k + 1) = decide (l[k].n = []) by simp [pvT, hlt])
        have hprev : 0 < k → ∃ q, wr.cell? ⟨g, o + (k - 1) * 4, none⟩ = some (.string ⟨q.toArray⟩) ∧ pvT l k = decide (q = []) := by
          intro hk0
          obtain ⟨g2, o2, _, _, e, hg2, _, x1, _⟩ := HA.out (k - 1) (by omega)
          cases e
          obtain ⟨j, rfl⟩ : ∃ j, k = j + 1 := ⟨k - 1, by omega⟩
          refine ⟨_, (hb.cells.1 g _ hg).trans x1, ?_⟩
          simp [pvT, show j < l.length by omega]
        rcases hd : l[k] with ⟨n, a, x, kd⟩
        rw [hd] at h1 h3 h5 h6 hwt HE hpv
        simp only [Nd.n, Nd.a, Nd.x, Nd.k] at h1 h3 h5 h6 hwt HE hpv
        have y1 := (hb.cells.1 g _ hg).trans h1
        have y2 := (hb.cells.1 g _ hg).trans h2
        have y3 := (hb.cells.1 g _ hg).trans h3
        have y4 := (hb.cells.1 g _ hg).trans h4
        have hgr : g < wr.heap.size := Nat.lt_of_lt_of_le hg (Below.size hb)
        have hwk := wt_cnt kd
        have hwl := cnt_len kd
        have hwA := wtA_len a
        have NC := Lib.hid (fun W => isName_c n (by omega) W)
        have EC := Lib.hid (fun W => isEmptyR_c n W)
        have AC := Lib.hid (fun W (hbW : Bl w W) => checkAttrs_c a va (by omega) (fun b hbm => by have := wtA_get a b hbm; omega) W (h5.ats.of_bl hbW))
        have SC := Lib.hid (fun W (hbW : Bl w W) => (show Calls Tryz.prog 24 #[.slice na r.length nc, .string ⟨n.toArray⟩] W (fun e w' => e = .returned (.int .i64 (cls r n : Nat)) ∧ W = w') from by
          have := closes_c r.reverse (.slice na r.length nc) n (by simp; omega) W (HS.out.of_bl hbW)
          unfold stI at this
          rw [List.reverse_reverse] at this
          exact this))
        have KC := Lib.hid (fun W vn' (hbW : Bl w W) (hs : StS W vn' (n :: r).reverse) => IH.out kd (n :: r) vk vn' P W (by omega) (by simp; omega) (h6.of_bl hbW) hs)
        obtain ⟨a1, c1, rfl⟩ : ∃ b c, va = .slice b a.length c := by obtain ⟨b, c, e, -⟩ := h5; exact ⟨b, c, e⟩
        obtain ⟨a2, c2, rfl⟩ : ∃ b c, vk = .slice b kd.length c := by obtain ⟨b, c, e, -⟩ := h6; exact ⟨b, c, e⟩
        have hkr : r.length ≤ 10000000 := by omega
        have hal : a.length ≤ 10000000 := by omega
        have hkl : kd.length ≤ 10000000 := by omega
        clear h1 h2 h3 h4 h5 h6
        by_cases hn0 : n = []
        · subst hn0
          by_cases hx0 : x = []
          · subst hx0
            have HR := Lib.hid (show ckL r false l = 1 by rw [HE.out]; exact ck_nd (ndE_t1 (.inl rfl)) (by decide))
            clear hprev
            go_wp2_with (first
                | (go_at_call 19; (with_reducible refine (NC.out _).mono ?_); rintro e w1 ⟨rfl, rfl⟩)
                | (go_at_call 25; (with_reducible refine (EC.out _).mono ?_); rintro e w2 ⟨rfl, rfl⟩)
                | (go_at_call 20; (with_reducible refine (AC.out _ (hb.alloc _)).mono ?_); rintro e w3 ⟨rfl, hb3⟩; have hbw3 : Bl w w3 := (hb.alloc _).trans hb3; have hq3 : wr.heap.size < w3.heap.size := (by have := Below.size hb3; simp at this; omega); have z0 : w3.cell? ⟨wr.heap.size, 0, none⟩ = some (.string ⟨n.toArray⟩) := (hb3.cells.1 wr.heap.size 0 (by simp)).trans (by simp); have z3 : w3.cell? ⟨wr.heap.size, 3, none⟩ = some (.slice a2 kd.length c2) := (hb3.cells.1 wr.heap.size 3 (by simp)).trans (by simp))
                | (go_at_call 24; (with_reducible refine (SC.out _ hbw3).mono ?_); rintro e w4 ⟨rfl, rfl⟩))
            go_ret
            exact ⟨ret_int HR.out.symm, hb.alloc _⟩
          · have hxe : x.isEmpty = false := by cases x <;> simp_all
            by_cases hak : a = [] ∧ kd = []
            · obtain ⟨rfl, rfl⟩ := hak
              have HX : Hid (ckL r false l = if pvT l k = true then 4 else ckL r true (l.drop (k + 1))) := Lib.hid (by rw [HE.out]; exact ck_txt hx0)
              clear hx0 HE
              by_cases hk1 : 0 < k
              · obtain ⟨pq, hp1, hp2⟩ := hprev hk1
                have hk1' : (0 : Int) < (k : Int) := by omega
                by_cases hpe : pq = []
                · have HR := Lib.hid (show ckL r false l = 4 by rw [HX.out, if_pos (by rw [hp2]; simpa using hpe)])
                  have hpe' : pq.isEmpty = true := by simp [hpe]
                  clear hp2 hpe hprev
                  go_wp2_with (first
                      | (go_at_call 19; (with_reducible refine (NC.out _).mono ?_); rintro e w1 ⟨rfl, rfl⟩)
                      | (go_at_call 25; (with_reducible refine (EC.out _).mono ?_); rintro e w2 ⟨rfl, rfl⟩)
                      | (go_at_call 20; (with_reducible refine (AC.out _ (hb.alloc _)).mono ?_); rintro e w3 ⟨rfl, hb3⟩; have hbw3 : Bl w w3 := (hb.alloc _).trans hb3; have hq3 : wr.heap.size < w3.heap.size := (by have := Below.size hb3; simp at this; omega); have z0 : w3.cell? ⟨wr.heap.size, 0, none⟩ = some (.string ⟨n.toArray⟩) := (hb3.cells.1 wr.heap.size 0 (by simp)).trans (by simp); have z3 : w3.cell? ⟨wr.heap.size, 3, none⟩ = some (.slice a2 kd.length c2) := (hb3.cells.1 wr.heap.size 3 (by simp)).trans (by simp))
                      | (go_at_call 24; (with_reducible refine (SC.out _ hbw3).mono ?_); rintro e w4 ⟨rfl, rfl⟩))
                  go_ret
                  exact ⟨ret_int HR.out.symm, hb.alloc _⟩
                · have HR := Lib.hid (show ckL r false l = _ from by rw [HX.out, if_neg (by rw [hp2]; simpa using hpe)])
                  have hpe' : pq.isEmpty = false := by cases pq <;> simp_all
                  clear hp2 hpe hprev
                  go_wp2
                  go_roundw
                  case rel => exact ⟨k + 1, by omega, by go_num, Lib.hid (by rw [HR.out, hpv.out] <;> rfl), hb.alloc _⟩
                  case measure => simp [intOf]; omega
              · have hk1' : ¬ (0 : Int) < (k : Int) := by omega
                have HR := Lib.hid (show ckL r false l = _ from by rw [HX.out, if_neg (by rw [show k = 0 by omega]; simp [pvT])])
                clear hprev
                go_wp2
                go_roundw
                case rel => exact ⟨k + 1, by omega, by go_num, Lib.hid (by rw [HR.out, hpv.out] <;> rfl), hb.alloc _⟩
                case measure => simp [intOf]; omega
            · have hsum : (0 : Int) < (a.length : Int) + (kd.length : Int) := by
                rcases a with _ | ⟨b, a⟩
                · rcases kd with _ | ⟨b, kd⟩
                  · exact absurd ⟨rfl, rfl⟩ hak
                  · simp <;> omega
                · simp <;> omega
              have HR := Lib.hid (show ckL r false l = 1 by
                rw [HE.out]; exact ck_nd (ndE_t1 (.inr (by rcases a with _ | ⟨b, a⟩ <;> rcases kd with _ | ⟨b', kd⟩ <;> simp_all))) (by decide))
              clear hx0 hak hprev
              go_wp2_with (first
                  | (go_at_call 19; (with_reducible refine (NC.out _).mono ?_); rintro e w1 ⟨rfl, rfl⟩)
                  | (go_at_call 25; (with_reducible refine (EC.out _).mono ?_); rintro e w2 ⟨rfl, rfl⟩)
                  | (go_at_call 20; (with_reducible refine (AC.out _ (hb.alloc _)).mono ?_); rintro e w3 ⟨rfl, hb3⟩; have hbw3 : Bl w w3 := (hb.alloc _).trans hb3; have hq3 : wr.heap.size < w3.heap.size := (by have := Below.size hb3; simp at this; omega); have z0 : w3.cell? ⟨wr.heap.size, 0, none⟩ = some (.string ⟨n.toArray⟩) := (hb3.cells.1 wr.heap.size 0 (by simp)).trans (by simp); have z3 : w3.cell? ⟨wr.heap.size, 3, none⟩ = some (.slice a2 kd.length c2) := (hb3.cells.1 wr.heap.size 3 (by simp)).trans (by simp))
                  | (go_at_call 24; (with_reducible refine (SC.out _ hbw3).mono ?_); rintro e w4 ⟨rfl, rfl⟩))
              go_ret
              exact ⟨ret_int HR.out.symm, hb.alloc _⟩
        · have hne : n.isEmpty = false := by cases n <;> simp_all
          have HN0 := Lib.hid hn0
          clear hprev
          by_cases hx0 : x = []
          · subst hx0
            cases hN : isNm n
            · rw [hN] at NC
              have HR := Lib.hid (show ckL r false l = 1 by rw [HE.out]; exact ck_nd (ndE_e1 hn0 (.inr (.inl hN))) (by decide))
              clear hn0 hN HN0
              go_wp2_with (first
                  | (go_at_call 19; (with_reducible refine (NC.out _).mono ?_); rintro e w1 ⟨rfl, rfl⟩)
                  | (go_at_call 25; (with_reducible refine (EC.out _).mono ?_); rintro e w2 ⟨rfl, rfl⟩)
                  | (go_at_call 20; (with_reducible refine (AC.out _ (hb.alloc _)).mono ?_); rintro e w3 ⟨rfl, hb3⟩; have hbw3 : Bl w w3 := (hb.alloc _).trans hb3; have hq3 : wr.heap.size < w3.heap.size := (by have := Below.size hb3; simp at this; omega); have z0 : w3.cell? ⟨wr.heap.size, 0, none⟩ = some (.string ⟨n.toArray⟩) := (hb3.cells.1 wr.heap.size 0 (by simp)).trans (by simp); have z3 : w3.cell? ⟨wr.heap.size, 3, none⟩ = some (.slice a2 kd.length c2) := (hb3.cells.1 wr.heap.size 3 (by simp)).trans (by simp))
                  | (go_at_call 24; (with_reducible refine (SC.out _ hbw3).mono ?_); rintro e w4 ⟨rfl, rfl⟩))
              go_ret
              exact ⟨ret_int HR.out.symm, hb.alloc _⟩
            · rw [hN] at NC
              cases hE : emptyN n
              · rw [hE] at EC
                have HD := Lib.hid (ndE_e2 (r := r) (a := a) (k := kd) hn0 hN (by rw [hE]; simp))
                clear hE hN hn0
                by_cases he : atE a = 0
                · rw [he] at AC
                  by_cases hc : cls r n < r.length
                  · have hci : ((cls r n : Nat) : Int) < (r.length : Int) := by omega
                    have HR := Lib.hid (show ckL r false l = 4 by rw [HE.out]; exact ck_nd (HD.out.trans (by rw [if_neg (fun h => h he), if_pos hc])) (by decide))
                    clear he hc HN0
                    go_wp2_with (first
                        | (go_at_call 19; (with_reducible refine (NC.out _).mono ?_); rintro e w1 ⟨rfl, rfl⟩)
                        | (go_at_call 25; (with_reducible refine (EC.out _).mono ?_); rintro e w2 ⟨rfl, rfl⟩)
                        | (go_at_call 20; (with_reducible refine (AC.out _ (hb.alloc _)).mono ?_); rintro e w3 ⟨rfl, hb3⟩; have hbw3 : Bl w w3 := (hb.alloc _).trans hb3; have hq3 : wr.heap.size < w3.heap.size := (by have := Below.size hb3; simp at this; omega); have z0 : w3.cell? ⟨wr.heap.size, 0, none⟩ = some (.string ⟨n.toArray⟩) := (hb3.cells.1 wr.heap.size 0 (by simp)).trans (by simp); have z3 : w3.cell? ⟨wr.heap.size, 3, none⟩ = some (.slice a2 kd.length c2) := (hb3.cells.1 wr.heap.size 3 (by simp)).trans (by simp))
                        | (go_at_call 24; (with_reducible refine (SC.out _ hbw3).mono ?_); rintro e w4 ⟨rfl, rfl⟩))
                    go_ret
                    exact ⟨ret_int HR.out.symm, hbw3⟩
                  · have hci : ¬ ((cls r n : Nat) : Int) < (r.length : Int) := by omega
                    have hcb : decide (cls r n < r.length) = false := decide_eq_false hc
                    have HR := Lib.hid (HE.out.trans (ck_rec HN0.out (HD.out.trans (by rw [if_neg (fun h => h he), if_neg hc]))))
                    clear he hc
                    go_upto_region 16 with (first
                    | (go_at_call 19; (with_reducible refine (NC.out _).mono ?_); rintro e w1 ⟨rfl, rfl⟩)
                    | (go_at_call 25; (with_reducible refine (EC.out _).mono ?_); rintro e w2 ⟨rfl, rfl⟩)
                    | (go_at_call 20; (with_reducible refine (AC.out _ (hb.alloc _)).mono ?_); rintro e w3 ⟨rfl, hb3⟩; have hbw3 : Bl w w3 := (hb.alloc _).trans hb3; have hq3 : wr.heap.size < w3.heap.size := (by have := Below.size hb3; simp at this; omega); have z0 : w3.cell? ⟨wr.heap.size, 0, none⟩ = some (.string ⟨n.toArray⟩) := (hb3.cells.1 wr.heap.size 0 (by simp)).trans (by simp); have z3 : w3.cell? ⟨wr.heap.size, 3, none⟩ = some (.slice a2 kd.length c2) := (hb3.cells.1 wr.heap.size 3 (by simp)).trans (by simp))
                    | (go_at_call 24; (with_reducible refine (SC.out _ hbw3).mono ?_); rintro e w4 ⟨rfl, rfl⟩))
                    go_cut [7] from 81 to 90 (fun t wx => t = .int .i64 (ckL (n :: r) false kd) ∧ Bl w wx)
                    case first =>
                      go_region_law (first
                        | (refine step_append_sts rfl (.tmp 83) (.tmp 84) 48 rfl w3.heap.size 9 s0 (.string ⟨#[]⟩) 16 Tryz.underlying48 hs hs0 hs1 hs2 rfl (.slice (some ⟨w3.heap.size, 0, none⟩) 0 0) 0 [] ?_ (own_bl' (World.ownsRow_made (base := w3.heap.size) (e := 9) (size := 1) w3 #[] 0 (Nat.le_refl _) (by decide) rfl) (by repeat (first | exact Bl.refl _ | refine Bl.drew ?_ | refine Bl.alloc ?_ _))) (.slice na r.length nc) r.reverse (by simp [Act.eval]) (HS.out.of_bl (Bl.trans hbw3 (by repeat (first | exact Bl.refl _ | refine Bl.drew ?_ | refine Bl.alloc ?_ _)))) (by unfold maxLen; simp; omega) (by simp; omega) (by first | omega | (simp; omega) | simp) ?_; (· simp [Act.eval]); intro v5 w5 hown5' hgrow5; have hbq : Bl w3 w5 := Below.trans (show Bl w3 _ from (by repeat (first | exact Bl.refl _ | refine Bl.drew ?_ | refine Bl.alloc ?_ _))) (bel_gr hgrow5 (fun j hj => by simp only [Value.ownBlock, Option.some.injEq] at hj; omega) (by first | omega | (simp; omega) | simp)); have hown5 : w5.ownsRow w3.heap.size 9 1 v5 r.length (strV r.reverse) := (by simpa using hown5'); clear hown5'; obtain ⟨aoc, coc, rfl, -⟩ := own_shp hown5; have hsq : w3.heap.size ≤ w5.heap.size := Below.size hbq; have p3 : w5.cell? ⟨wr.heap.size, 3, none⟩ = some (.slice a2 kd.length c2) := (hbq.cells.1 wr.heap.size 3 hq3).trans z3; have p0 : w5.cell? ⟨wr.heap.size, 0, none⟩ = some (.string ⟨n.toArray⟩) := (hbq.cells.1 wr.heap.size 0 hq3).trans z0; have hq5 : wr.heap.size < w5.heap.size := Nat.lt_of_lt_of_le hq3 hsq)
                        | (refine step_append_sts rfl (.tmp 83) (.tmp 84) 48 rfl w3.heap.size 9 s0 (.string ⟨#[]⟩) 16 Tryz.underlying48 hs hs0 hs1 hs2 rfl (.slice (some ⟨w3.heap.size + 1, 0, none⟩) 0 0) 0 [] ?_ (own_bl' (by have := World.ownsRow_made (base := w3.heap.size) (e := 9) (size := 1) (w3.alloc (.cells #[.string ⟨n.toArray⟩] 9)) #[] 0 (by simp) (by decide) rfl; simpa using this) (by repeat (first | exact Bl.refl _ | refine Bl.drew ?_ | refine Bl.alloc ?_ _))) (.slice na r.length nc) r.reverse (by simp [Act.eval]) (HS.out.of_bl (Bl.trans hbw3 (by repeat (first | exact Bl.refl _ | refine Bl.drew ?_ | refine Bl.alloc ?_ _)))) (by unfold maxLen; simp; omega) (by simp; omega) (by first | omega | (simp; omega) | simp) ?_; (· simp [Act.eval]); intro v5 w5 hown5' hgrow5; have hbq : Bl w3 w5 := Below.trans (show Bl w3 _ from (by repeat (first | exact Bl.refl _ | refine Bl.drew ?_ | refine Bl.alloc ?_ _))) (bel_gr hgrow5 (fun j hj => by simp only [Value.ownBlock, Option.some.injEq] at hj; omega) (by first | omega | (simp; omega) | simp)); have hown5 : w5.ownsRow w3.heap.size 9 1 v5 r.length (strV r.reverse) := (by simpa using hown5'); clear hown5'; obtain ⟨aoc, coc, rfl, -⟩ := own_shp hown5; have hsq : w3.heap.size ≤ w5.heap.size := Below.size hbq; have p3 : w5.cell? ⟨wr.heap.size, 3, none⟩ = some (.slice a2 kd.length c2) := (hbq.cells.1 wr.heap.size 3 hq3).trans z3; have p0 : w5.cell? ⟨wr.heap.size, 0, none⟩ = some (.string ⟨n.toArray⟩) := (hbq.cells.1 wr.heap.size 0 hq3).trans z0; have hq5 : wr.heap.size < w5.heap.size := Nat.lt_of_lt_of_le hq3 hsq)
                        | (refine step_append_own rfl (.tmp 85) (.tmp 88) 48 rfl w3.heap.size 9 s0 (.string ⟨#[]⟩) 1 16 Tryz.underlying48 hs hs0 hs1 hs2 rfl (by decide) (.slice aoc r.length coc) r.length (strV r.reverse) (by simp [Act.eval]) (own_bl' hown5 (by repeat (first | exact Bl.refl _ | refine Bl.drew ?_ | refine Bl.alloc ?_ _))) ⟨w5.heap.size, 0, none⟩ 1 1 [.string ⟨n.toArray⟩] ?_ rfl (new_cells w5 #[.string ⟨n.toArray⟩] _) (by simp [Value.oneCell']) (by unfold maxLen; omega) (by omega) (by first | omega | (simp; omega)) ?_; (· simp [Act.eval]); intro v9 w9 hown9 hgrow9; have hbz : Bl w3 w9 := Below.trans (Bl.trans hbq (by repeat (first | exact Bl.refl _ | refine Bl.drew ?_ | refine Bl.alloc ?_ _))) (bel_gr hgrow9 (fun j hj => ((World.ownsRow.lt hown5) j hj).1) (by first | omega | (simp; omega))); obtain ⟨gv, cv, rfl, hcv⟩ := own_some hown9; have hst9 : StS w9 (.slice (some ⟨gv, 0, none⟩) (r.length + 1) cv) (n :: r).reverse := own_sts' (n := r.length + 1) (by simp) (by rw [List.reverse_cons, strV_snoc]; exact hown9); have r3 : w9.cell? ⟨wr.heap.size, 3, none⟩ = some (.slice a2 kd.length c2) := (hbz.cells.1 wr.heap.size 3 hq3).trans z3; have hq9 : wr.heap.size < w9.heap.size := Nat.lt_of_lt_of_le hq3 (Below.size hbz); clear hown9 hgrow9)
                        | (refine step_append_own rfl (.tmp 85) (.tmp 88) 48 rfl w3.heap.size 9 s0 (.string ⟨#[]⟩) 1 16 Tryz.underlying48 hs hs0 hs1 hs2 rfl (by decide) (.slice aoc r.length coc) r.length (strV r.reverse) (by simp [Act.eval]) (own_bl' hown5 (by repeat (first | exact Bl.refl _ | refine Bl.drew ?_ | refine Bl.alloc ?_ _))) ⟨w3.heap.size, 0, none⟩ 1 1 [.string ⟨n.toArray⟩] ?_ rfl (one_news ((hgrow5.cell_far ⟨w3.heap.size, 0, none⟩ (by first | (simp; omega) | simp) (fun e => by simp [Value.ownBlock] at e <;> omega)).trans (by simp))) (by simp [Value.oneCell']) (by unfold maxLen; omega) (by omega) (by first | omega | (simp; omega)) ?_; (· simp [Act.eval]); intro v9 w9 hown9 hgrow9; have hbz : Bl w3 w9 := Below.trans (Bl.trans hbq (by repeat (first | exact Bl.refl _ | refine Bl.drew ?_ | refine Bl.alloc ?_ _))) (bel_gr hgrow9 (fun j hj => ((World.ownsRow.lt hown5) j hj).1) (by first | omega | (simp; omega))); obtain ⟨gv, cv, rfl, hcv⟩ := own_some hown9; have hst9 : StS w9 (.slice (some ⟨gv, 0, none⟩) (r.length + 1) cv) (n :: r).reverse := own_sts' (n := r.length + 1) (by simp) (by rw [List.reverse_cons, strV_snoc]; exact hown9); have r3 : w9.cell? ⟨wr.heap.size, 3, none⟩ = some (.slice a2 kd.length c2) := (hbz.cells.1 wr.heap.size 3 hq3).trans z3; have hq9 : wr.heap.size < w9.heap.size := Nat.lt_of_lt_of_le hq3 (Below.size hbz); clear hown9 hgrow9)
                        | (refine step_append_own rfl (.tmp 85) (.tmp 88) 48 rfl w3.heap.size 9 s0 (.string ⟨#[]⟩) 1 16 Tryz.underlying48 hs hs0 hs1 hs2 rfl (by decide) (.slice aoc r.length coc) r.length (strV r.reverse) (by simp [Act.eval]) (own_bl' hown5 (by repeat (first | exact Bl.refl _ | refine Bl.drew ?_ | refine Bl.alloc ?_ _))) ⟨w3.heap.size + 1, 0, none⟩ 1 1 [.string ⟨n.toArray⟩] ?_ rfl (one_news ((hgrow5.cell_far ⟨w3.heap.size + 1, 0, none⟩ (by first | (simp; omega) | simp) (fun e => by simp [Value.ownBlock] at e <;> omega)).trans (by simp))) (by simp [Value.oneCell']) (by unfold maxLen; omega) (by omega) (by first | omega | (simp; omega)) ?_; (· simp [Act.eval]); intro v9 w9 hown9 hgrow9; have hbz : Bl w3 w9 := Below.trans (Bl.trans hbq (by repeat (first | exact Bl.refl _ | refine Bl.drew ?_ | refine Bl.alloc ?_ _))) (bel_gr hgrow9 (fun j hj => ((World.ownsRow.lt hown5) j hj).1) (by first | omega | (simp; omega))); obtain ⟨gv, cv, rfl, hcv⟩ := own_some hown9; have hst9 : StS w9 (.slice (some ⟨gv, 0, none⟩) (r.length + 1) cv) (n :: r).reverse := own_sts' (n := r.length + 1) (by simp) (by rw [List.reverse_cons, strV_snoc]; exact hown9); have r3 : w9.cell? ⟨wr.heap.size, 3, none⟩ = some (.slice a2 kd.length c2) := (hbz.cells.1 wr.heap.size 3 hq3).trans z3; have hq9 : wr.heap.size < w9.heap.size := Nat.lt_of_lt_of_le hq3 (Below.size hbz); clear hown9 hgrow9)
                        | (go_simp; go_at_call 22; (with_reducible refine (KC.out _ _ (by repeat (first | exact hbw3.trans hbz | refine Bl.drew ?_)) (by first | exact hst9 | exact hst9.of_bl (Bl.drew (Bl.refl _)))).mono ?_); rintro e w10 ⟨rfl, hb10⟩))
                      all_goals
                        go_wp2_with fail
                        go_meet
                        case rel => exact ⟨rfl, by repeat (first | exact (hbw3.trans hbz).trans (Bl.trans (by repeat (first | exact Bl.refl _ | refine Bl.drew ?_)) hb10) | refine Bl.drew ?_)⟩
                    case rest =>
                      obtain ⟨rfl, hb5⟩ := hcut
                      obtain ⟨q, hq⟩ : ∃ q, q = ckL (n :: r) false kd := ⟨_, rfl⟩
                      rw [← hq] at HR
                      rw [← hq]
                      clear hq
                      by_cases hq0 : q = 0
                      · have HX := Lib.hid (show ckL r false l = _ from by rw [HR.out, if_neg (fun h => h hq0)])
                        subst hq0
                        go_wp2
                        go_roundw
                        case rel => exact ⟨k + 1, by omega, by go_num, Lib.hid (by rw [HX.out, hpv.out] <;> rfl), hb5⟩
                        case measure => simp [intOf]; omega
                      · have HX := Lib.hid (show ckL r false l = q by rw [HR.out, if_pos hq0])
                        have hq2 : (q != 0) = true := by simpa using hq0
                        have hq3 : (q == 0) = false := by simpa using hq0
                        clear hq0
                        go_wp2
                        go_ret
                        exact ⟨ret_int HX.out.symm, hb5⟩
                · have HR := Lib.hid (show ckL r false l = atE a by rw [HE.out]; exact ck_nd (HD.out.trans (by rw [if_pos he])) he)
                  obtain ⟨q, hq⟩ : ∃ q, q = atE a := ⟨_, rfl⟩
                  rw [← hq] at AC he HR
                  have he' : (q == 0) = false := by simpa using he
                  have he2 : (q != 0) = true := by simpa using he
                  clear he hq HN0
                  go_wp2_with (first
                      | (go_at_call 19; (with_reducible refine (NC.out _).mono ?_); rintro e w1 ⟨rfl, rfl⟩)
                      | (go_at_call 25; (with_reducible refine (EC.out _).mono ?_); rintro e w2 ⟨rfl, rfl⟩)
                      | (go_at_call 20; (with_reducible refine (AC.out _ (hb.alloc _)).mono ?_); rintro e w3 ⟨rfl, hb3⟩; have hbw3 : Bl w w3 := (hb.alloc _).trans hb3; have hq3 : wr.heap.size < w3.heap.size := (by have := Below.size hb3; simp at this; omega); have z0 : w3.cell? ⟨wr.heap.size, 0, none⟩ = some (.string ⟨n.toArray⟩) := (hb3.cells.1 wr.heap.size 0 (by simp)).trans (by simp); have z3 : w3.cell? ⟨wr.heap.size, 3, none⟩ = some (.slice a2 kd.length c2) := (hb3.cells.1 wr.heap.size 3 (by simp)).trans (by simp))
                      | (go_at_call 24; (with_reducible refine (SC.out _ hbw3).mono ?_); rintro e w4 ⟨rfl, rfl⟩))
                  go_ret
                  exact ⟨ret_int HR.out.symm, hbw3⟩
              · rw [hE] at EC
                by_cases hk0 : kd = []
                · have HD := Lib.hid (ndE_e2 (r := r) (a := a) (k := kd) hn0 hN (by simp [hk0]))
                  have hkz : ¬ (0 : Int) < (kd.length : Int) := by simp [hk0]
                  clear hE hN hn0 hk0
                  by_cases he : atE a = 0
                  · rw [he] at AC
                    by_cases hc : cls r n < r.length
                    · have hci : ((cls r n : Nat) : Int) < (r.length : Int) := by omega
                      have HR := Lib.hid (show ckL r false l = 4 by rw [HE.out]; exact ck_nd (HD.out.trans (by rw [if_neg (fun h => h he), if_pos hc])) (by decide))
                      clear he hc HN0
                      go_wp2_with (first
                          | (go_at_call 19; (with_reducible refine (NC.out _).mono ?_); rintro e w1 ⟨rfl, rfl⟩)
                          | (go_at_call 25; (with_reducible refine (EC.out _).mono ?_); rintro e w2 ⟨rfl, rfl⟩)
                          | (go_at_call 20; (with_reducible refine (AC.out _ (hb.alloc _)).mono ?_); rintro e w3 ⟨rfl, hb3⟩; have hbw3 : Bl w w3 := (hb.alloc _).trans hb3; have hq3 : wr.heap.size < w3.heap.size := (by have := Below.size hb3; simp at this; omega); have z0 : w3.cell? ⟨wr.heap.size, 0, none⟩ = some (.string ⟨n.toArray⟩) := (hb3.cells.1 wr.heap.size 0 (by simp)).trans (by simp); have z3 : w3.cell? ⟨wr.heap.size, 3, none⟩ = some (.slice a2 kd.length c2) := (hb3.cells.1 wr.heap.size 3 (by simp)).trans (by simp))
                          | (go_at_call 24; (with_reducible refine (SC.out _ hbw3).mono ?_); rintro e w4 ⟨rfl, rfl⟩))
                      go_ret
                      exact ⟨ret_int HR.out.symm, hbw3⟩
                    · have hci : ¬ ((cls r n : Nat) : Int) < (r.length : Int) := by omega
                      have hcb : decide (cls r n < r.length) = false := decide_eq_false hc
                      have HR := Lib.hid (HE.out.trans (ck_rec HN0.out (HD.out.trans (by rw [if_neg (fun h => h he), if_neg hc]))))
                      clear he hc
                      go_upto_region 16 with (first
                      | (go_at_call 19; (with_reducible refine (NC.out _).mono ?_); rintro e w1 ⟨rfl, rfl⟩)
                      | (go_at_call 25; (with_reducible refine (EC.out _).mono ?_); rintro e w2 ⟨rfl, rfl⟩)
                      | (go_at_call 20; (with_reducible refine (AC.out _ (hb.alloc _)).mono ?_); rintro e w3 ⟨rfl, hb3⟩; have hbw3 : Bl w w3 := (hb.alloc _).trans hb3; have hq3 : wr.heap.size < w3.heap.size := (by have := Below.size hb3; simp at this; omega); have z0 : w3.cell? ⟨wr.heap.size, 0, none⟩ = some (.string ⟨n.toArray⟩) := (hb3.cells.1 wr.heap.size 0 (by simp)).trans (by simp); have z3 : w3.cell? ⟨wr.heap.size, 3, none⟩ = some (.slice a2 kd.length c2) := (hb3.cells.1 wr.heap.size 3 (by simp)).trans (by simp))
                      | (go_at_call 24; (with_reducible refine (SC.out _ hbw3).mono ?_); rintro e w4 ⟨rfl, rfl⟩))
                      go_cut [7] from 81 to 90 (fun t wx => t = .int .i64 (ckL (n :: r) false kd) ∧ Bl w wx)
                      case first =>
                        go_region_law (first
                          | (refine step_append_sts rfl (.tmp 83) (.tmp 84) 48 rfl w3.heap.size 9 s0 (.string ⟨#[]⟩) 16 Tryz.underlying48 hs hs0 hs1 hs2 rfl (.slice (some ⟨w3.heap.size, 0, none⟩) 0 0) 0 [] ?_ (own_bl' (World.ownsRow_made (base := w3.heap.size) (e := 9) (size := 1) w3 #[] 0 (Nat.le_refl _) (by decide) rfl) (by repeat (first | exact Bl.refl _ | refine Bl.drew ?_ | refine Bl.alloc ?_ _))) (.slice na r.length nc) r.reverse (by simp [Act.eval]) (HS.out.of_bl (Bl.trans hbw3 (by repeat (first | exact Bl.refl _ | refine Bl.drew ?_ | refine Bl.alloc ?_ _)))) (by unfold maxLen; simp; omega) (by simp; omega) (by first | omega | (simp; omega) | simp) ?_; (· simp [Act.eval]); intro v5 w5 hown5' hgrow5; have hbq : Bl w3 w5 := Below.trans (show Bl w3 _ from (by repeat (first | exact Bl.refl _ | refine Bl.drew ?_ | refine Bl.alloc ?_ _))) (bel_gr hgrow5 (fun j hj => by simp only [Value.ownBlock, Option.some.injEq] at hj; omega) (by first | omega | (simp; omega) | simp)); have hown5 : w5.ownsRow w3.heap.size 9 1 v5 r.length (strV r.reverse) := (by simpa using hown5'); clear hown5'; obtain ⟨aoc, coc, rfl, -⟩ := own_shp hown5; have hsq : w3.heap.size ≤ w5.heap.size := Below.size hbq; have p3 : w5.cell? ⟨wr.heap.size, 3, none⟩ = some (.slice a2 kd.length c2) := (hbq.cells.1 wr.heap.size 3 hq3).trans z3; have p0 : w5.cell? ⟨wr.heap.size, 0, none⟩ = some (.string ⟨n.toArray⟩) := (hbq.cells.1 wr.heap.size 0 hq3).trans z0; have hq5 : wr.heap.size < w5.heap.size := Nat.lt_of_lt_of_le hq3 hsq)
                          | (refine step_append_sts rfl (.tmp 83) (.tmp 84) 48 rfl w3.heap.size 9 s0 (.string ⟨#[]⟩) 16 Tryz.underlying48 hs hs0 hs1 hs2 rfl (.slice (some ⟨w3.heap.size + 1, 0, none⟩) 0 0) 0 [] ?_ (own_bl' (by have := World.ownsRow_made (base := w3.heap.size) (e := 9) (size := 1) (w3.alloc (.cells #[.string ⟨n.toArray⟩] 9)) #[] 0 (by simp) (by decide) rfl; simpa using this) (by repeat (first | exact Bl.refl _ | refine Bl.drew ?_ | refine Bl.alloc ?_ _))) (.slice na r.length nc) r.reverse (by simp [Act.eval]) (HS.out.of_bl (Bl.trans hbw3 (by repeat (first | exact Bl.refl _ | refine Bl.drew ?_ | refine Bl.alloc ?_ _)))) (by unfold maxLen; simp; omega) (by simp; omega) (by first | omega | (simp; omega) | simp) ?_; (· simp [Act.eval]); intro v5 w5 hown5' hgrow5; have hbq : Bl w3 w5 := Below.trans (show Bl w3 _ from (by repeat (first | exact Bl.refl _ | refine Bl.drew ?_ | refine Bl.alloc ?_ _))) (bel_gr hgrow5 (fun j hj => by simp only [Value.ownBlock, Option.some.injEq] at hj; omega) (by first | omega | (simp; omega) | simp)); have hown5 : w5.ownsRow w3.heap.size 9 1 v5 r.length (strV r.reverse) := (by simpa using hown5'); clear hown5'; obtain ⟨aoc, coc, rfl, -⟩ := own_shp hown5; have hsq : w3.heap.size ≤ w5.heap.size := Below.size hbq; have p3 : w5.cell? ⟨wr.heap.size, 3, none⟩ = some (.slice a2 kd.length c2) := (hbq.cells.1 wr.heap.size 3 hq3).trans z3; have p0 : w5.cell? ⟨wr.heap.size, 0, none⟩ = some (.string ⟨n.toArray⟩) := (hbq.cells.1 wr.heap.size 0 hq3).trans z0; have hq5 : wr.heap.size < w5.heap.size := Nat.lt_of_lt_of_le hq3 hsq)
                          | (refine step_append_own rfl (.tmp 85) (.tmp 88) 48 rfl w3.heap.size 9 s0 (.string ⟨#[]⟩) 1 16 Tryz.underlying48 hs hs0 hs1 hs2 rfl (by decide) (.slice aoc r.length coc) r.length (strV r.reverse) (by simp [Act.eval]) (own_bl' hown5 (by repeat (first | exact Bl.refl _ | refine Bl.drew ?_ | refine Bl.alloc ?_ _))) ⟨w5.heap.size, 0, none⟩ 1 1 [.string ⟨n.toArray⟩] ?_ rfl (new_cells w5 #[.string ⟨n.toArray⟩] _) (by simp [Value.oneCell']) (by unfold maxLen; omega) (by omega) (by first | omega | (simp; omega)) ?_; (· simp [Act.eval]); intro v9 w9 hown9 hgrow9; have hbz : Bl w3 w9 := Below.trans (Bl.trans hbq (by repeat (first | exact Bl.refl _ | refine Bl.drew ?_ | refine Bl.alloc ?_ _))) (bel_gr hgrow9 (fun j hj => ((World.ownsRow.lt hown5) j hj).1) (by first | omega | (simp; omega))); obtain ⟨gv, cv, rfl, hcv⟩ := own_some hown9; have hst9 : StS w9 (.slice (some ⟨gv, 0, none⟩) (r.length + 1) cv) (n :: r).reverse := own_sts' (n := r.length + 1) (by simp) (by rw [List.reverse_cons, strV_snoc]; exact hown9); have r3 : w9.cell? ⟨wr.heap.size, 3, none⟩ = some (.slice a2 kd.length c2) := (hbz.cells.1 wr.heap.size 3 hq3).trans z3; have hq9 : wr.heap.size < w9.heap.size := Nat.lt_of_lt_of_le hq3 (Below.size hbz); clear hown9 hgrow9)
                          | (refine step_append_own rfl (.tmp 85) (.tmp 88) 48 rfl w3.heap.size 9 s0 (.string ⟨#[]⟩) 1 16 Tryz.underlying48 hs hs0 hs1 hs2 rfl (by decide) (.slice aoc r.length coc) r.length (strV r.reverse) (by simp [Act.eval]) (own_bl' hown5 (by repeat (first | exact Bl.refl _ | refine Bl.drew ?_ | refine Bl.alloc ?_ _))) ⟨w3.heap.size, 0, none⟩ 1 1 [.string ⟨n.toArray⟩] ?_ rfl (one_news ((hgrow5.cell_far ⟨w3.heap.size, 0, none⟩ (by first | (simp; omega) | simp) (fun e => by simp [Value.ownBlock] at e <;> omega)).trans (by simp))) (by simp [Value.oneCell']) (by unfold maxLen; omega) (by omega) (by first | omega | (simp; omega)) ?_; (· simp [Act.eval]); intro v9 w9 hown9 hgrow9; have hbz : Bl w3 w9 := Below.trans (Bl.trans hbq (by repeat (first | exact Bl.refl _ | refine Bl.drew ?_ | refine Bl.alloc ?_ _))) (bel_gr hgrow9 (fun j hj => ((World.ownsRow.lt hown5) j hj).1) (by first | omega | (simp; omega))); obtain ⟨gv, cv, rfl, hcv⟩ := own_some hown9; have hst9 : StS w9 (.slice (some ⟨gv, 0, none⟩) (r.length + 1) cv) (n :: r).reverse := own_sts' (n := r.length + 1) (by simp) (by rw [List.reverse_cons, strV_snoc]; exact hown9); have r3 : w9.cell? ⟨wr.heap.size, 3, none⟩ = some (.slice a2 kd.length c2) := (hbz.cells.1 wr.heap.size 3 hq3).trans z3; have hq9 : wr.heap.size < w9.heap.size := Nat.lt_of_lt_of_le hq3 (Below.size hbz); clear hown9 hgrow9)
                          | (refine step_append_own rfl (.tmp 85) (.tmp 88) 48 rfl w3.heap.size 9 s0 (.string ⟨#[]⟩) 1 16 Tryz.underlying48 hs hs0 hs1 hs2 rfl (by decide) (.slice aoc r.length coc) r.length (strV r.reverse) (by simp [Act.eval]) (own_bl' hown5 (by repeat (first | exact Bl.refl _ | refine Bl.drew ?_ | refine Bl.alloc ?_ _))) ⟨w3.heap.size + 1, 0, none⟩ 1 1 [.string ⟨n.toArray⟩] ?_ rfl (one_news ((hgrow5.cell_far ⟨w3.heap.size + 1, 0, none⟩ (by first | (simp; omega) | simp) (fun e => by simp [Value.ownBlock] at e <;> omega)).trans (by simp))) (by simp [Value.oneCell']) (by unfold maxLen; omega) (by omega) (by first | omega | (simp; omega)) ?_; (· simp [Act.eval]); intro v9 w9 hown9 hgrow9; have hbz : Bl w3 w9 := Below.trans (Bl.trans hbq (by repeat (first | exact Bl.refl _ | refine Bl.drew ?_ | refine Bl.alloc ?_ _))) (bel_gr hgrow9 (fun j hj => ((World.ownsRow.lt hown5) j hj).1) (by first | omega | (simp; omega))); obtain ⟨gv, cv, rfl, hcv⟩ := own_some hown9; have hst9 : StS w9 (.slice (some ⟨gv, 0, none⟩) (r.length + 1) cv) (n :: r).reverse := own_sts' (n := r.length + 1) (by simp) (by rw [List.reverse_cons, strV_snoc]; exact hown9); have r3 : w9.cell? ⟨wr.heap.size, 3, none⟩ = some (.slice a2 kd.length c2) := (hbz.cells.1 wr.heap.size 3 hq3).trans z3; have hq9 : wr.heap.size < w9.heap.size := Nat.lt_of_lt_of_le hq3 (Below.size hbz); clear hown9 hgrow9)
                          | (go_simp; go_at_call 22; (with_reducible refine (KC.out _ _ (by repeat (first | exact hbw3.trans hbz | refine Bl.drew ?_)) (by first | exact hst9 | exact hst9.of_bl (Bl.drew (Bl.refl _)))).mono ?_); rintro e w10 ⟨rfl, hb10⟩))
                        all_goals
                          go_wp2_with fail
                          go_meet
                          case rel => exact ⟨rfl, by repeat (first | exact (hbw3.trans hbz).trans (Bl.trans (by repeat (first | exact Bl.refl _ | refine Bl.drew ?_)) hb10) | refine Bl.drew ?_)⟩
                      case rest =>
                        obtain ⟨rfl, hb5⟩ := hcut
                        obtain ⟨q, hq⟩ : ∃ q, q = ckL (n :: r) false kd := ⟨_, rfl⟩
                        rw [← hq] at HR
                        rw [← hq]
                        clear hq
                        by_cases hq0 : q = 0
                        · have HX := Lib.hid (show ckL r false l = _ from by rw [HR.out, if_neg (fun h => h hq0)])
                          subst hq0
                          go_wp2
                          go_roundw
                          case rel => exact ⟨k + 1, by omega, by go_num, Lib.hid (by rw [HX.out, hpv.out] <;> rfl), hb5⟩
                          case measure => simp [intOf]; omega
                        · have HX := Lib.hid (show ckL r false l = q by rw [HR.out, if_pos hq0])
                          have hq2 : (q != 0) = true := by simpa using hq0
                          have hq3 : (q == 0) = false := by simpa using hq0
                          clear hq0
                          go_wp2
                          go_ret
                          exact ⟨ret_int HX.out.symm, hb5⟩
                  · have HR := Lib.hid (show ckL r false l = atE a by rw [HE.out]; exact ck_nd (HD.out.trans (by rw [if_pos he])) he)
                    obtain ⟨q, hq⟩ : ∃ q, q = atE a := ⟨_, rfl⟩
                    rw [← hq] at AC he HR
                    have he' : (q == 0) = false := by simpa using he
                    have he2 : (q != 0) = true := by simpa using he
                    clear he hq HN0
                    go_wp2_with (first
                        | (go_at_call 19; (with_reducible refine (NC.out _).mono ?_); rintro e w1 ⟨rfl, rfl⟩)
                        | (go_at_call 25; (with_reducible refine (EC.out _).mono ?_); rintro e w2 ⟨rfl, rfl⟩)
                        | (go_at_call 20; (with_reducible refine (AC.out _ (hb.alloc _)).mono ?_); rintro e w3 ⟨rfl, hb3⟩; have hbw3 : Bl w w3 := (hb.alloc _).trans hb3; have hq3 : wr.heap.size < w3.heap.size := (by have := Below.size hb3; simp at this; omega); have z0 : w3.cell? ⟨wr.heap.size, 0, none⟩ = some (.string ⟨n.toArray⟩) := (hb3.cells.1 wr.heap.size 0 (by simp)).trans (by simp); have z3 : w3.cell? ⟨wr.heap.size, 3, none⟩ = some (.slice a2 kd.length c2) := (hb3.cells.1 wr.heap.size 3 (by simp)).trans (by simp))
                        | (go_at_call 24; (with_reducible refine (SC.out _ hbw3).mono ?_); rintro e w4 ⟨rfl, rfl⟩))
                    go_ret
                    exact ⟨ret_int HR.out.symm, hbw3⟩
                · have hkp : (0 : Int) < (kd.length : Int) := by have := List.length_pos_iff.2 hk0; omega
                  have HR := Lib.hid (show ckL r false l = 1 by rw [HE.out]; exact ck_nd (ndE_e1 hn0 (.inr (.inr ⟨hE, hk0⟩))) (by decide))
                  clear hE hN hn0 hk0 HN0
                  go_wp2_with (first
                      | (go_at_call 19; (with_reducible refine (NC.out _).mono ?_); rintro e w1 ⟨rfl, rfl⟩)
                      | (go_at_call 25; (with_reducible refine (EC.out _).mono ?_); rintro e w2 ⟨rfl, rfl⟩)
                      | (go_at_call 20; (with_reducible refine (AC.out _ (hb.alloc _)).mono ?_); rintro e w3 ⟨rfl, hb3⟩; have hbw3 : Bl w w3 := (hb.alloc _).trans hb3; have hq3 : wr.heap.size < w3.heap.size := (by have := Below.size hb3; simp at this; omega); have z0 : w3.cell? ⟨wr.heap.size, 0, none⟩ = some (.string ⟨n.toArray⟩) := (hb3.cells.1 wr.heap.size 0 (by simp)).trans (by simp); have z3 : w3.cell? ⟨wr.heap.size, 3, none⟩ = some (.slice a2 kd.length c2) := (hb3.cells.1 wr.heap.size 3 (by simp)).trans (by simp))
                      | (go_at_call 24; (with_reducible refine (SC.out _ hbw3).mono ?_); rintro e w4 ⟨rfl, rfl⟩))
                  go_ret
                  exact ⟨ret_int HR.out.symm, hb.alloc _⟩
          · have hxe : x.isEmpty = false := by cases x <;> simp_all
            have HR := Lib.hid (show ckL r false l = 1 by rw [HE.out]; exact ck_nd (ndE_e1 hn0 (.inl hx0)) (by decide))
            clear hn0 hx0 HN0
            go_wp2_with (first
                | (go_at_call 19; (with_reducible refine (NC.out _).mono ?_); rintro e w1 ⟨rfl, rfl⟩)
                | (go_at_call 25; (with_reducible refine (EC.out _).mono ?_); rintro e w2 ⟨rfl, rfl⟩)
                | (go_at_call 20; (with_reducible refine (AC.out _ (hb.alloc _)).mono ?_); rintro e w3 ⟨rfl, hb3⟩; have hbw3 : Bl w w3 := (hb.alloc _).trans hb3; have hq3 : wr.heap.size < w3.heap.size := (by have := Below.size hb3; simp at this; omega); have z0 : w3.cell? ⟨wr.heap.size, 0, none⟩ = some (.string ⟨n.toArray⟩) := (hb3.cells.1 wr.heap.size 0 (by simp)).trans (by simp); have z3 : w3.cell? ⟨wr.heap.size, 3, none⟩ = some (.slice a2 kd.length c2) := (hb3.cells.1 wr.heap.size 3 (by simp)).trans (by simp))
                | (go_at_call 24; (with_reducible refine (SC.out _ hbw3).mono ?_); rintro e w4 ⟨rfl, rfl⟩))
            go_ret
            exact ⟨ret_int HR.out.symm, hb.alloc _⟩
      · have HE := Lib.hid (show ckL r false l = 0 by rw [HP.out, List.drop_eq_nil_of_le (by omega)]; rfl)
        go_wp2
        go_ret
        exact ⟨ret_int HE.out.symm, hb⟩
end Go.Proofs.YtjclpmpphkmpdaaGreatDoor

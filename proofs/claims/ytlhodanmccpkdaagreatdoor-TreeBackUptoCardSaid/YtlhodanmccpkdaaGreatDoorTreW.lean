/- Trees: textIn and inside of the laws. -/
import Derived.Test.YtlhodanmccpkdaaGreatDoorGrpF
import Derived.BigQuiet
namespace Go.Proofs.YtlhodanmccpkdaaGreatDoor
open Go.RowKit

theorem ntx_take (l : List Nd) (k : Nat) (h : k < l.length) : ntxL (l.take (k + 1)) = ntxL (l.take k) ++ (l[k].x ++ ntxL l[k].k) := by
  rw [take_snoc l k h, ntx_app]
  cases e : l[k] with
  | mk n a x k' => simp [ntxL, ntxN, Nd.x, Nd.k]
theorem ntx_le (l : List Nd) (k : Nat) : (ntxL (l.take k)).length ≤ (ntxL l).length := by
  have h : ntxL l = ntxL (l.take k) ++ ntxL (l.drop k) := by rw [← ntx_app, List.take_append_drop]
  rw [h, List.length_append]; omega
set_option maxRecDepth 100000 in
set_option maxHeartbeats 4000000 in
theorem textIn_c (N : Nat) : ∀ (l : List Nd) (v : Value) (P : Nat → Prop) (w : World), cntL l < N → N ≤ 1000000000 → (ntxL l).length ≤ 1099511627776 → NdS w P v l →
    Calls Tryz.prog 8 #[v, .bool false] w fun e w' => e = .returned (.string ⟨(ntxL l).toArray⟩) ∧ Qt w w' := by
  induction N with
  | zero => intro l v P w h; omega
  | succ N ih =>
    intro l v P w hN hN2 hX hA
    obtain ⟨ao, cap, rfl, hcap, hA⟩ := hA.get
    have hll := cnt_len l
    have IH := Lib.hid ih
    have HA := Lib.hid hA
    have HN := Lib.hid hN
    have HX := Lib.hid hX
    clear ih hA hN hX
    go_enter Tryz.func8, Tryz.ntmps8
    go_wp2
    go_loopw [5, 6] (fun s i wr => ∃ k : Nat, k ≤ l.length ∧ i = .int .i64 k ∧ s = .string ⟨(ntxL (l.take k)).toArray⟩ ∧ Qt w wr) (fun _ i _ => l.length - (intOf i).toNat)
    case atStart => exact ⟨0, Nat.zero_le _, rfl, rfl, Qt.refl _⟩
    case round =>
      obtain ⟨k, hk, rfl, rfl, hq⟩ := hrel
      by_cases hlt : k < l.length
      · obtain ⟨g, o, va, vk, rfl, hg, -, h1, h2, h3, h4, h5, h6⟩ := HA.out k hlt
        have y3 := (hq.bl.cells.1 g _ hg).trans h3
        have y4 := (hq.bl.cells.1 g _ hg).trans h4
        have hgr : g < wr.heap.size := Nat.lt_of_lt_of_le hg (Below.size hq.bl)
        have hwt := cnt_get l k hlt
        have HT := Lib.hid (ntx_take l k hlt)
        have z1 := ntx_le l (k + 1)
        have z2 := HX.out
        rw [HT.out, List.length_append, List.length_append] at z1
        have hN3 := HN.out
        have KC := Lib.hid (fun W (hbW : Qt wr W) => IH.out l[k].k vk P W (by omega) (by omega) (by omega) ((h6.of_bl hq.bl).of_bl hbW.bl))
        obtain ⟨y, hy⟩ : ∃ y, y = ntxL (l.take k) := ⟨_, rfl⟩
        obtain ⟨x, hx⟩ : ∃ x, x = ntxL l[k].k := ⟨_, rfl⟩
        rw [← hy, ← hx] at HT z1
        rw [← hx] at KC
        rw [← hy]
        clear h1 h2 h3 h4 h5 h6 hy hx
        go_wp2_with (go_quiet (first | (refine quiet_qt (KC.out _ ?_); exact (Qt.refl _).drewN _) | (refine quiet_qt2 (KC.out _ ?_); exact (Qt.refl _).drewN _)))
        go_roundw
        case rel => exact ⟨k + 1, by omega, by go_num, by rw [HT.out], hq.drewN _⟩
        case measure => simp [intOf]; omega
      · have HE := Lib.hid (show l.take k = l from List.take_of_length_le (by omega))
        go_wp2
        go_ret
        exact ⟨by rw [HE.out]; rfl, hq⟩
theorem insN_k (p li : Bool) (d : Nd) : insN p li d = ((decide (d.n = sP) && p || decide (d.n = sLi) && li) || insL (!(ulolN d.n || decide (d.n = sLi) || decide (d.n = sBq)) && (p || decide (d.n = sP))) (!ulolN d.n && (li || decide (d.n = sLi))) d.k) := by
  cases d; rfl
theorem ins_drop (p li : Bool) (l : List Nd) (k : Nat) (h : k < l.length) : insL p li (l.drop k) = (insN p li l[k] || insL p li (l.drop (k + 1))) := by
  rw [List.drop_eq_getElem_cons h]; rfl
set_option maxRecDepth 100000 in
set_option maxHeartbeats 16000000 in
theorem inside_c (N : Nat) : ∀ (l : List Nd) (v : Value) (P : Nat → Prop) (p li : Bool) (w : World), cntL l < N → N ≤ 1000000000 → NdS w P v l →
    Calls Tryz.prog 15 #[v, .bool p, .bool li] w fun e w' => e = .returned (.bool (insL p li l)) ∧ Bl w w' := by
  induction N with
  | zero => intro l v P p li w h; omega
  | succ N ih =>
    intro l v P p li w hN hN2 hA
    obtain ⟨ao, cap, rfl, hcap, hA⟩ := hA.get
    have hll := cnt_len l
    have IH := Lib.hid ih
    have HA := Lib.hid hA
    have HN := Lib.hid hN
    clear ih hA hN
    go_enter Tryz.func15, Tryz.ntmps15
    go_wp2
    go_loopw [7] (fun i wr => ∃ k : Nat, k ≤ l.length ∧ i = .int .i64 k ∧ Hid (insL p li l = insL p li (l.drop k)) ∧ Bl w wr) (fun i _ => l.length - (intOf i).toNat)
    case atStart => exact ⟨0, Nat.zero_le _, rfl, Lib.hid rfl, Bl.refl _⟩
    case round =>
      obtain ⟨k, hk, rfl, HP, hb⟩ := hrel
      by_cases hlt : k < l.length
      · obtain ⟨g, o, va, vk, rfl, hg, -, h1, h2, h3, h4, h5, h6⟩ := HA.out k hlt
        have y1 := (hb.cells.1 g _ hg).trans h1
        have y2 := (hb.cells.1 g _ hg).trans h2
        have y3 := (hb.cells.1 g _ hg).trans h3
        have y4 := (hb.cells.1 g _ hg).trans h4
        have hgr : g < wr.heap.size := Nat.lt_of_lt_of_le hg (Below.size hb)
        have hwt := cnt_get l k hlt
        have hN3 := HN.out
        have KC := Lib.hid (fun W (a b : Bool) (hbW : Bl wr W) => (IH.out l[k].k vk P a b W (by omega) (by omega) ((h6.of_bl hb).of_bl hbW)).mono (R' := fun e w' => ∃ q, insL a b l[k].k = q ∧ e = .returned (.bool q) ∧ Bl W w') (fun e w' ⟨h1, h2⟩ => ⟨_, rfl, h1, h2⟩))
        obtain ⟨a1, n1, c1, rfl⟩ : ∃ a n c, va = .slice a n c := by obtain ⟨a, c, e, -⟩ := h5; exact ⟨a, _, c, e⟩
        obtain ⟨a2, c2, rfl⟩ : ∃ a c, vk = .slice a l[k].k.length c := by obtain ⟨a, c, e, -⟩ := h6; exact ⟨a, c, e⟩
        have HI := Lib.hid (show insL p li l = _ from by rw [HP.out, ins_drop p li l k hlt, insN_k])
        clear h1 h2 h3 h4 h5 h6
        have hc : (l[k].n = [112] ∨ l[k].n = [108, 105] ∨ l[k].n = [117, 108] ∨ l[k].n = [111, 108] ∨ l[k].n = [98, 108, 111, 99, 107, 113, 117, 111, 116, 101]) ∨
            ((l[k].n == [112]) = false ∧ (l[k].n == [108, 105]) = false ∧ (l[k].n == [117, 108]) = false ∧ (l[k].n == [111, 108]) = false ∧ (l[k].n == [98, 108, 111, 99, 107, 113, 117, 111, 116, 101]) = false) := by
          by_cases c1 : l[k].n = [112]
          · exact .inl (.inl c1)
          by_cases c2 : l[k].n = [108, 105]
          · exact .inl (.inr (.inl c2))
          by_cases c3 : l[k].n = [117, 108]
          · exact .inl (.inr (.inr (.inl c3)))
          by_cases c4 : l[k].n = [111, 108]
          · exact .inl (.inr (.inr (.inr (.inl c4))))
          by_cases c5 : l[k].n = [98, 108, 111, 99, 107, 113, 117, 111, 116, 101]
          · exact .inl (.inr (.inr (.inr (.inr c5))))
          · exact .inr ⟨by simpa using c1, by simpa using c2, by simpa using c3, by simpa using c4, by simpa using c5⟩
        rcases hc with hc | ⟨f1, f2, f3, f4, f5⟩
        · rcases hc with hc | hc | hc | hc | hc
          all_goals
            rw [hc] at y1 HI
            clear hc
            cases p <;> cases li
          all_goals
            go_wp2_with (first | go_quiet (fail) | (go_at_call 15; (with_reducible refine (KC.out _ _ _ (by repeat (first | exact Bl.refl _ | refine Bl.drewN ?_ _ | refine Bl.drew ?_ | refine Bl.alloc ?_ _))).mono ?_); rintro e w2 ⟨q, hq, rfl, hb2⟩; cases q))
            all_goals first
              | (refine ⟨⟨k + 1, by omega, by go_num, Lib.hid (by rw [HI.out]; simp [sP, sLi, ulolN, sUl, sOl, sBq, hq]), hb.trans (Bl.trans (by repeat (first | exact Bl.refl _ | refine Bl.drewN ?_ _ | refine Bl.drew ?_ | refine Bl.alloc ?_ _)) hb2)⟩, ?_⟩; simp [intOf]; omega)
              | (go_ret; exact ⟨ret_bool (by rw [HI.out]; simp [sP, sLi, ulolN, sUl, sOl, sBq, hq]), hb.trans (Bl.trans (by repeat (first | exact Bl.refl _ | refine Bl.drewN ?_ _ | refine Bl.drew ?_ | refine Bl.alloc ?_ _)) hb2)⟩)
              | (go_ret; exact ⟨ret_bool (by rw [HI.out]; simp [sP, sLi, ulolN, sUl, sOl, sBq]), (by repeat (first | exact hb | refine Bl.drewN ?_ _ | refine Bl.drew ?_ | refine Bl.alloc ?_ _))⟩)
        · have nf : ∀ {c : Nm}, (l[k].n == c) = false → decide (l[k].n = c) = false := fun h => decide_eq_false (by simpa using h)
          have HF : Hid (decide (l[k].n = sP) = false ∧ decide (l[k].n = sLi) = false ∧ decide (l[k].n = sBq) = false ∧ ulolN l[k].n = false) := Lib.hid ⟨nf f1, nf f2, nf f5, by unfold ulolN; rw [show decide (l[k].n = sUl) = false from nf f3, show decide (l[k].n = sOl) = false from nf f4]; rfl⟩
          cases p <;> cases li
          all_goals
            clear nf
            rw [HF.out.1, HF.out.2.1, HF.out.2.2.1, HF.out.2.2.2] at HI
            go_wp2_with (first | go_quiet (fail) | (go_at_call 15; (with_reducible refine (KC.out _ _ _ (by repeat (first | exact Bl.refl _ | refine Bl.drewN ?_ _ | refine Bl.drew ?_ | refine Bl.alloc ?_ _))).mono ?_); rintro e w2 ⟨q, hq, rfl, hb2⟩; cases q))
            all_goals first
              | (refine ⟨⟨k + 1, by omega, by go_num, Lib.hid (by rw [HI.out]; simp [Bool.or_false, hq]), hb.trans (Bl.trans (by repeat (first | exact Bl.refl _ | refine Bl.drewN ?_ _ | refine Bl.drew ?_ | refine Bl.alloc ?_ _)) hb2)⟩, ?_⟩; simp [intOf]; omega)
              | (go_ret; exact ⟨ret_bool (by rw [HI.out]; simp [Bool.or_false, hq]), hb.trans (Bl.trans (by repeat (first | exact Bl.refl _ | refine Bl.drewN ?_ _ | refine Bl.drew ?_ | refine Bl.alloc ?_ _)) hb2)⟩)
              | (go_ret; exact ⟨ret_bool (by rw [HI.out]; simp [Bool.or_false]), (by repeat (first | exact hb | refine Bl.drewN ?_ _ | refine Bl.drew ?_ | refine Bl.alloc ?_ _))⟩)
      · have HE := Lib.hid (show insL p li l = false by rw [HP.out, List.drop_eq_nil_of_le (by omega)]; rfl)
        go_wp2
        go_ret
        exact ⟨ret_bool HE.out.symm, hb⟩
end Go.Proofs.YtlhodanmccpkdaaGreatDoor

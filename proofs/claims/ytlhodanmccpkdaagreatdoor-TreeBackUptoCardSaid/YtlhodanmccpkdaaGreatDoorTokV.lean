/- Tokens: SameTokens. -/
import Derived.Test.YtlhodanmccpkdaaGreatDoorGrpF
namespace Go.Proofs.YtlhodanmccpkdaaGreatDoor
open Go.RowKit

instance decAtr : DecidableEq Atr := inferInstanceAs (DecidableEq (List UInt8 × List UInt8))
instance decTok : DecidableEq Tok := inferInstanceAs (DecidableEq (Int × List UInt8 × List Atr × List UInt8))
set_option maxRecDepth 100000 in
set_option maxHeartbeats 4000000 in
theorem sameTokens_c (a b : List Tok) (va vb : Value) (hl : a.length ≤ 1099511627776) (ha : ∀ t ∈ a, t.2.2.1.length ≤ 1099511627776) (w : World) (hA : TkS w va a) (hB : TkS w vb b) :
    Calls Tryz.prog 20 #[va, vb] w fun e w' => e = .returned (.bool (decide (a = b))) ∧ Qt w w' := by
  obtain ⟨ao, ca, rfl, hA⟩ := hA
  obtain ⟨bo, cb, rfl, hB⟩ := hB
  by_cases hlen : a.length = b.length
  · have hlen' : ((a.length : Int) != (b.length : Int)) = false := by simp [hlen]
    have HL := Lib.hid hlen
    have HAL := Lib.hid ha
    have hl2 : b.length ≤ 1099511627776 := by omega
    go_enter Tryz.func20, Tryz.ntmps20
    clear hlen ha
    go_wp2
    go_loopw [5] (fun i wr => ∃ k : Nat, k ≤ a.length ∧ i = .int .i64 k ∧ Hid (∀ j (h1 : j < a.length) (h2 : j < b.length), j < k → a[j] = b[j]) ∧ Qt w wr) (fun i _ => a.length - (intOf i).toNat)
    case atStart => exact ⟨0, Nat.zero_le _, rfl, Lib.hid (fun j _ _ h => by omega), Qt.refl _⟩
    case round =>
      obtain ⟨k, hk, rfl, HP, hq⟩ := hrel
      by_cases hlt : k < a.length
      · have hltb : k < b.length := by have := HL.out; omega
        have hltb' : (k : Int) < (b.length : Int) := by omega
        obtain ⟨g, o, xa, rfl, hg, h1, h2, h3, h4, h5, -⟩ := hA k hlt
        obtain ⟨g', o', xb, rfl, hg', h1', h2', h3', h4', h5', -⟩ := hB k hltb
        have y1 := (hq.bl.cells.1 g _ hg).trans h1
        have y2 := (hq.bl.cells.1 g _ hg).trans h2
        have y3 := (hq.bl.cells.1 g _ hg).trans h3
        have y4 := (hq.bl.cells.1 g _ hg).trans h4
        have z1 := (hq.bl.cells.1 g' _ hg').trans h1'
        have z2 := (hq.bl.cells.1 g' _ hg').trans h2'
        have z3 := (hq.bl.cells.1 g' _ hg').trans h3'
        have z4 := (hq.bl.cells.1 g' _ hg').trans h4'
        have SC := Lib.hid (fun W (h : Qt wr W) => sameAttrs_c a[k].2.2.1 b[k].2.2.1 xa xb (HAL.out _ (List.getElem_mem hlt)) W ((h5.of_bl hq.bl).of_bl h.bl) ((h5'.of_bl hq.bl).of_bl h.bl))
        clear h1 h2 h3 h4 h5 h1' h2' h3' h4' h5' hA hB
        have HNE := Lib.hid (fun h => list_ne k hlt hltb h)
        by_cases e1 : a[k].1 = b[k].1
        · have f1 : (a[k].1 != b[k].1) = false := by simp [e1]
          by_cases e2 : a[k].2.1 = b[k].2.1
          · have f2 : (a[k].2.1 == b[k].2.1) = true := by simp [e2]
            by_cases e3 : a[k].2.2.2 = b[k].2.2.2
            · have f3 : (a[k].2.2.2 == b[k].2.2.2) = true := by simp [e3]
              by_cases e4 : a[k].2.2.1 = b[k].2.2.1
              · have HE := Lib.hid (show a[k] = b[k] from Prod.ext e1 (Prod.ext e2 (Prod.ext e4 e3)))
                rw [decide_eq_true e4] at SC
                clear e1 e2 e3 e4
                go_wp2_with (go_quiet (first | (refine quiet_qt (SC.out _ ?_); exact (Qt.refl _).drewN _) | (refine quiet_qt2 (SC.out _ ?_); exact (Qt.refl _).drewN _)))
                go_roundw
                case rel =>
                  refine ⟨k + 1, by omega, by go_num, Lib.hid (fun j h1 h2 hj => ?_), hq.drewN _⟩
                  by_cases e : j = k
                  · subst e; exact HE.out
                  · exact HP.out j h1 h2 (by omega)
                case measure => simp [intOf]; omega
              · have HE := Lib.hid (list_ne k hlt hltb (fun h => e4 (by rw [h])))
                rw [decide_eq_false e4] at SC
                clear e1 e2 e3 e4
                go_wp2_with (go_quiet (first | (refine quiet_qt (SC.out _ ?_); exact (Qt.refl _).drewN _) | (refine quiet_qt2 (SC.out _ ?_); exact (Qt.refl _).drewN _)))
                go_ret
                exact ⟨ret_bool (by rw [decide_eq_false HE.out]), hq.drewN _⟩
            · have f3 : (a[k].2.2.2 == b[k].2.2.2) = false := by simp [e3]
              have HE := Lib.hid (list_ne k hlt hltb (fun h => e3 (by rw [h])))
              clear e1 e2 e3
              go_wp2_with (go_quiet (first | (refine quiet_qt (SC.out _ ?_); exact (Qt.refl _).drewN _) | (refine quiet_qt2 (SC.out _ ?_); exact (Qt.refl _).drewN _)))
              go_ret
              exact ⟨ret_bool (by rw [decide_eq_false HE.out]), hq.drewN _⟩
          · have f2 : (a[k].2.1 == b[k].2.1) = false := by simp [e2]
            have HE := Lib.hid (list_ne k hlt hltb (fun h => e2 (by rw [h])))
            clear e1 e2
            go_wp2_with (go_quiet (first | (refine quiet_qt (SC.out _ ?_); exact (Qt.refl _).drewN _) | (refine quiet_qt2 (SC.out _ ?_); exact (Qt.refl _).drewN _)))
            go_ret
            exact ⟨ret_bool (by rw [decide_eq_false HE.out]), hq.drewN _⟩
        · have f1 : (a[k].1 != b[k].1) = true := by simp [e1]
          have HE := Lib.hid (list_ne k hlt hltb (fun h => e1 (by rw [h])))
          clear e1
          go_wp2_with (go_quiet (first | (refine quiet_qt (SC.out _ ?_); exact (Qt.refl _).drewN _) | (refine quiet_qt2 (SC.out _ ?_); exact (Qt.refl _).drewN _)))
          go_ret
          exact ⟨ret_bool (by rw [decide_eq_false HE.out]), hq.drewN _⟩

      · have HE := Lib.hid (list_eq HL.out (fun j h1 h2 => HP.out j h1 h2 (by omega)))
        go_wp2
        go_ret
        exact ⟨ret_bool (by rw [HE.out]; simp), hq⟩
  · have hlen' : ((a.length : Int) != (b.length : Int)) = true := by simp; omega
    have HL := Lib.hid hlen
    clear hlen
    go_enter Tryz.func20, Tryz.ntmps20
    go_wp2
    go_ret
    exact ⟨ret_bool (by rw [decide_eq_false (fun h => HL.out (by rw [h]))]), Qt.refl _⟩
end Go.Proofs.YtlhodanmccpkdaaGreatDoor

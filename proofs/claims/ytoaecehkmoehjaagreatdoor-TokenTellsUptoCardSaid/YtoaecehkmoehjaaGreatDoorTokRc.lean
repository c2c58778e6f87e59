/- Tokens: the reference: CheckAttrs. -/
import Derived.Test.YtoaecehkmoehjaaGreatDoorTokX
import Derived.Test.YtoaecehkmoehjaaGreatDoorGrpA
namespace Go.Proofs.YtoaecehkmoehjaaGreatDoor
open Go.RowKit

theorem cf_isname : ∀ (args : Array Value) (W : World), Sem.run Tryz.prog (callFunc 21 args) W = .ok (.enter 21 args) W := by
  intro args W
  simp [callFunc, go_sem, Tryz.func21, Tryz.f21]
set_option maxRecDepth 100000 in
set_option maxHeartbeats 2000000 in
theorem checkAttrs_c (l : List Atr) (v : Value) (hl : l.length ≤ 1099511627776) (hn : ∀ a ∈ l, a.1.length ≤ 1099511627776) (w : World) (hA : AtS w v l) :
    Calls Tryz.prog 22 #[v, .func (.func 21) #[] #[]] w fun e w' => e = .returned (.int .i64 (atE l)) ∧ Bl w w' := by
  obtain ⟨ao, c, rfl, hA⟩ := hA
  have hcf := cf_isname
  have HNL := Lib.hid hn
  clear hn
  go_enter Tryz.func22, Tryz.ntmps22
  go_wp2
  go_loopw [5] (fun i wr => ∃ k : Nat, k ≤ l.length ∧ i = .int .i64 k ∧ Hid (atE l = atEF (l.take k) (l.drop k)) ∧ Bl w wr) (fun i _ => l.length - (intOf i).toNat)
  case atStart => exact ⟨0, Nat.zero_le _, rfl, Lib.hid rfl, Bl.refl _⟩
  case round =>
    obtain ⟨k, hk, rfl, HP, hbl⟩ := hrel
    by_cases hlt : k < l.length
    · obtain ⟨g, o, rfl, hg, h1, h2⟩ := hA k hlt
      have y1 := (hbl.cells.1 g _ hg).trans h1
      have hgr : g < wr.heap.size := Nat.lt_of_lt_of_le hg (Below.size hbl)
      have HE := Lib.hid (show atE l = (if isNm l[k].1 = false then 1 else if ((l.take k).any (isN l[k].1)) then 6 else atEF (l.take (k + 1)) (l.drop (k + 1))) by
        rw [HP.out, List.drop_eq_getElem_cons hlt, atEF_cons2, take_snoc l k hlt])
      have NC := Lib.hid (fun W => isName_c l[k].1 (by have := HNL.out _ (List.getElem_mem hlt); omega) W)
      clear h1 h2
      cases hN : isNm l[k].1
      · rw [hN] at NC HE
        simp only [if_true] at HE
        clear hN
        go_wp2_with (go_at_call 21; (with_reducible refine (NC.out _).mono ?_); rintro e w7 ⟨rfl, rfl⟩)
        go_ret
        exact ⟨by rw [HE.out]; rfl, hbl⟩
      · rw [hN] at NC HE
        simp only [Bool.true_eq_false, if_false] at HE
        clear hN
        go_wp2_with (go_at_call 21; (with_reducible refine (NC.out _).mono ?_); rintro e w7 ⟨rfl, rfl⟩)
        go_loopw [6] (fun i wq => ∃ j : Nat, j ≤ k ∧ i = .int .i64 j ∧ Hid ((l.take j).any (isN l[k].1) = false) ∧ Bl wr wq) (fun i _ => k - (intOf i).toNat)
        case atStart => exact ⟨0, Nat.zero_le _, rfl, Lib.hid rfl, Bl.refl _⟩
        case round =>
          obtain ⟨j, hj, rfl, HJ, hbj⟩ := hrel
          have hbw := hbl.trans hbj
          have x1 := (hbj.cells.1 g _ hgr).trans y1
          by_cases hjk : j < k
          · obtain ⟨g2, o2, e2, _, q1, _⟩ := hA j (by omega)
            cases e2
            have q1 := (hbw.cells.1 g _ hg).trans q1
            by_cases hs : l[j].1 = l[k].1
            · have HY := Lib.hid (show (l.take k).any (isN l[k].1) = true by
                rw [List.any_eq_true]
                exact ⟨l[j], List.mem_take_iff_getElem.2 ⟨j, by omega, rfl⟩, by simp [isN, hs]⟩)
              rw [HY.out] at HE
              simp only [if_true] at HE
              rw [hs] at q1
              go_wp2
              go_quiet (fail)
              go_wp2
              go_ret
              exact ⟨by rw [HE.out]; rfl, by first | exact hbw | exact hbw.drewN _⟩
            · have HY := Lib.hid (show (l.take (j + 1)).any (isN l[k].1) = false by
                rw [take_snoc l j (by omega), List.any_append, HJ.out]
                simp [isN, hs])
              have hs' : (l[j].1 == l[k].1) = false := by simpa using hs
              go_wp2
              go_quiet (fail)
              go_wp2
              go_roundw
              case rel => exact ⟨j + 1, by omega, by go_num, HY, by first | exact hbj | exact hbj.drewN _⟩
              case measure => simp [intOf]; omega
          · have HK := Lib.hid (show (l.take k).any (isN l[k].1) = false by have := HJ.out; rwa [show j = k by omega] at this)
            rw [HK.out] at HE
            simp only [Bool.false_eq_true, if_false] at HE
            go_wp2
            go_roundw
            case rel => exact ⟨k + 1, by omega, by go_num, HE, hbw⟩
            case measure => simp [intOf]; omega
    · have HE := Lib.hid (show atE l = 0 by rw [HP.out, List.drop_eq_nil_of_le (by omega)]; rfl)
      go_wp2
      go_ret
      exact ⟨by rw [HE.out]; rfl, hbl⟩
end Go.Proofs.YtoaecehkmoehjaaGreatDoor

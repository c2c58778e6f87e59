/- Documents: what is wrong with attributes, by what a title is. -/
import Derived.Test.YtkacjnifhmgeiaaGreatDoorXmlC
import Derived.Test.YtkacjnifhmgeiaaGreatDoorTokW
namespace Go.Proofs.YtkacjnifhmgeiaaGreatDoor
open Go.RowKit

theorem cf_title : ∀ (args : Array Value) (W : World), Sem.run Tryz.prog (callFunc 53 args) W = .ok (.enter 53 args) W := by
  intro args W
  simp [callFunc, go_sem, Tryz.func53, Tryz.f53]
theorem atXF_cons2 (p : List Atr) (a : Atr) (l : List Atr) : atXF p (a :: l) = if isTi a.1 = false then 1 else if (p.any (isN a.1)) then 6 else atXF (p ++ [a]) l := rfl

set_option maxRecDepth 100000 in
set_option maxHeartbeats 2000000 in
theorem attrsT_c (l : List Atr) (v : Value) (hl : l.length ≤ 1099511627776) (hn : ∀ a ∈ l, a.1.length ≤ 1099511627776) (w : World) (hA : AtS w v l) (hC : CapOk v) :
    Calls Tryz.prog 54 #[v, .func (.func 53) #[] #[]] w fun e w' => e = .returned (.int .i64 (atX l)) ∧ Bl w w' := by
  obtain ⟨ao, c, rfl, hA⟩ := hA
  obtain ⟨_, _, _, e, hC⟩ := hC
  cases e
  have hcf := cf_title
  have HNL := Lib.hid hn
  clear hn
  go_enter Tryz.func54, Tryz.ntmps54
  go_wp2
  go_loopw [9] (fun i wr => ∃ k : Nat, k ≤ l.length ∧ i = .int .i64 k ∧ Hid (atX l = atXF (l.take k) (l.drop k)) ∧ Bl w wr) (fun i _ => l.length - (intOf i).toNat)
  case atStart => exact ⟨0, Nat.zero_le _, rfl, Lib.hid rfl, Bl.refl _⟩
  case round =>
    obtain ⟨k, hk, rfl, HP, hbl⟩ := hrel
    by_cases hlt : k < l.length
    · obtain ⟨g, o, rfl, hg, h1, h2⟩ := hA k hlt
      have hcells : ∀ i (h : i < l.length), w.cell? ⟨g, o + i * 2, none⟩ = some (.string ⟨l[i].1.toArray⟩) ∧ w.cell? ⟨g, o + i * 2 + 1, none⟩ = some (.string ⟨l[i].2.toArray⟩) := by
        intro i hi
        obtain ⟨g2, o2, e, _, x1, x2⟩ := hA i hi
        cases e
        exact ⟨x1, x2⟩
      have HA2 := Lib.hid (AtS.take (c := c) hcells hg k hk)
      have y1 := (hbl.cells.1 g _ hg).trans h1
      have y2 := (hbl.cells.1 g _ hg).trans h2
      have hgr : g < wr.heap.size := Nat.lt_of_lt_of_le hg (Below.size hbl)
      have HE := Lib.hid (show atX l = (if isTi l[k].1 = false then 1 else if ((l.take k).any (isN l[k].1)) then 6 else atXF (l.take (k + 1)) (l.drop (k + 1))) by
        rw [HP.out, List.drop_eq_getElem_cons hlt, atXF_cons2, take_snoc l k hlt])
      have NC := Lib.hid (fun W => titleP_c l[k].1 (by have := HNL.out _ (List.getElem_mem hlt); omega) W)
      have CC := Lib.hid (fun (W : World) (hi1 : InN l[k].1 wr.heap.size W) hi2 => containsF_c _ _ _ _ (do_same2 l[k].1 wr.heap.size) (l.take k) (.slice (some ⟨g, o, none⟩) k c) (by simp; omega) W hi1 hi2)
      have hkc : (k : Int) ≤ (c : Int) := by omega
      have hIn : InN l[k].1 wr.heap.size (wr.alloc (.cells #[.string ⟨l[k].1.toArray⟩, .string ⟨l[k].2.toArray⟩] 39)) := ⟨by simp, by simp⟩
      have hA3 := (HA2.out.of_bl hbl).of_bl ((Bl.refl wr).alloc (.cells #[.string ⟨l[k].1.toArray⟩, .string ⟨l[k].2.toArray⟩] 39))
      have HA3 := Lib.hid hA3
      clear h1 h2 hcells hA hA3
      cases hN : isTi l[k].1
      · rw [hN] at NC HE
        simp only [if_true] at HE
        clear hN
        go_wp2_with (go_at_call 53; (with_reducible refine (NC.out _).mono ?_); rintro e w7 ⟨rfl, rfl⟩)
        go_ret
        exact ⟨by rw [HE.out]; rfl, hbl.alloc _⟩
      · rw [hN] at NC HE
        clear hN
        cases hY : (l.take k).any (isN l[k].1)
        · rw [hY] at CC HE
          simp only [Bool.true_eq_false, if_false, Bool.false_eq_true] at HE
          clear hY
          go_wp2_with (first | (go_at_call 53; (with_reducible refine (NC.out _).mono ?_); rintro e w7 ⟨rfl, rfl⟩) | (go_at_call 70; (with_reducible refine (CC.out _ hIn HA3.out).mono ?_); rintro e w8 ⟨rfl, hb8⟩))
          go_roundw
          case rel => exact ⟨k + 1, by omega, by go_num, HE, (hbl.alloc _).trans hb8⟩
          case measure => simp [intOf]; omega
        · rw [hY] at CC HE
          simp only [Bool.true_eq_false, if_false, if_true] at HE
          clear hY
          go_wp2_with (first | (go_at_call 53; (with_reducible refine (NC.out _).mono ?_); rintro e w7 ⟨rfl, rfl⟩) | (go_at_call 70; (with_reducible refine (CC.out _ hIn HA3.out).mono ?_); rintro e w8 ⟨rfl, hb8⟩))
          go_ret
          exact ⟨by rw [HE.out]; rfl, (hbl.alloc _).trans hb8⟩
    · have HE := Lib.hid (show atX l = 0 by rw [HP.out, List.drop_eq_nil_of_le (by omega)]; rfl)
      go_wp2
      go_ret
      exact ⟨by rw [HE.out]; rfl, hbl⟩
end Go.Proofs.YtkacjnifhmgeiaaGreatDoor

/- Tokens: Check of the program. -/
import Derived.Test.YtjclpmpphkmpdaaGreatDoorGrpH
import Derived.Test.YtjclpmpphkmpdaaGreatDoorGrpE
namespace Go.Proofs.YtjclpmpphkmpdaaGreatDoor
open Go.RowKit

theorem cf_name : ∀ (args : Array Value) (W : World), Sem.run Tryz.prog (callFunc 43 args) W = .ok (.enter 43 args) W := by
  intro args W
  simp [callFunc, go_sem, Tryz.func43, Tryz.f43]
theorem AtS.take {w : World} {g o c : Nat} {l : List Atr} (h : ∀ i (h : i < l.length), w.cell? ⟨g, o + i * 2, none⟩ = some (.string ⟨l[i].1.toArray⟩) ∧ w.cell? ⟨g, o + i * 2 + 1, none⟩ = some (.string ⟨l[i].2.toArray⟩)) (hg : g < w.heap.size) (k : Nat) (hk : k ≤ l.length) : AtS w (.slice (some ⟨g, o, none⟩) k c) (l.take k) := by
  have hl : (l.take k).length = k := by simp; omega
  refine ⟨some ⟨g, o, none⟩, c, by rw [hl], fun i hi => ?_⟩
  rw [hl] at hi
  have hi' : i < l.length := by omega
  refine ⟨g, o, rfl, hg, ?_, ?_⟩
  · have := (h i hi').1; simpa using this
  · have := (h i hi').2; simpa using this
theorem atEF_cons2 (p : List Atr) (a : Atr) (l : List Atr) : atEF p (a :: l) = if isNm a.1 = false then 1 else if (p.any (isN a.1)) then 6 else atEF (p ++ [a]) l := rfl

set_option maxRecDepth 100000 in
set_option maxHeartbeats 2000000 in
theorem attrsE_c (l : List Atr) (v : Value) (hl : l.length ≤ 1099511627776) (hn : ∀ a ∈ l, a.1.length ≤ 1099511627776) (w : World) (hA : AtS w v l) (hC : CapOk v) :
    Calls Tryz.prog 44 #[v, .func (.func 43) #[] #[]] w fun e w' => e = .returned (.int .i64 (atE l)) ∧ Bl w w' := by
  obtain ⟨ao, c, rfl, hA⟩ := hA
  obtain ⟨_, _, _, e, hC⟩ := hC
  cases e
  have hcf := cf_name
  have HNL := Lib.hid hn
  clear hn
  go_enter Tryz.func44, Tryz.ntmps44
  go_wp2
  go_loopw [9] (fun i wr => ∃ k : Nat, k ≤ l.length ∧ i = .int .i64 k ∧ Hid (atE l = atEF (l.take k) (l.drop k)) ∧ Bl w wr) (fun i _ => l.length - (intOf i).toNat)
  case atStart => exact ⟨0, Nat.zero_le _, rfl, Lib.hid rfl, Bl.refl _⟩
  case round =>
    obtain ⟨k, hk, rfl, HP, hbl⟩ := hrel
    by_cases hlt : k < l.length
    · obtain ⟨g, o, rfl, hg, h1, h2⟩ := hA k hlt
      have hcells : ∀ i (h : i < l.length), w.cell? ⟨g, o + i * 2, none⟩ = some (.string ⟨l[i].1.toArray⟩) ∧ w.cell? ⟨g, o + i * 2 + 1, none⟩ = some (.string ⟨l[i].2.toArray⟩) := by
        intro i hi
        obtain ⟨g2, o2, e, _, x1, x2⟩ := hA i hi
        cases e
        exact ⟨x1, x2⟩
      have HA2 := Lib.hid (AtS.take (c := c) hcells hg k hk)
      have y1 := (hbl.cells.1 g _ hg).trans h1
      have y2 := (hbl.cells.1 g _ hg).trans h2
      have hgr : g < wr.heap.size := Nat.lt_of_lt_of_le hg (Below.size hbl)
      have HE := Lib.hid (show atE l = (if isNm l[k].1 = false then 1 else if ((l.take k).any (isN l[k].1)) then 6 else atEF (l.take (k + 1)) (l.drop (k + 1))) by
        rw [HP.out, List.drop_eq_getElem_cons hlt, atEF_cons2, take_snoc l k hlt])
      have NC := Lib.hid (fun W => name_c l[k].1 (by have := HNL.out _ (List.getElem_mem hlt); omega) W)
      have CC := Lib.hid (fun (W : World) (hi1 : InN l[k].1 wr.heap.size W) hi2 => containsF_c _ _ _ _ (do_same2 l[k].1 wr.heap.size) (l.take k) (.slice (some ⟨g, o, none⟩) k c) (by simp; omega) W hi1 hi2)
      have hkc : (k : Int) ≤ (c : Int) := by omega
      have hIn : InN l[k].1 wr.heap.size (wr.alloc (.cells #[.string ⟨l[k].1.toArray⟩, .string ⟨l[k].2.toArray⟩] 69)) := ⟨by simp, by simp⟩
      have hA3 := (HA2.out.of_bl hbl).of_bl ((Bl.refl wr).alloc (.cells #[.string ⟨l[k].1.toArray⟩, .string ⟨l[k].2.toArray⟩] 69))
      have HA3 := Lib.hid hA3
      clear h1 h2 hcells hA hA3
      cases hN : isNm l[k].1
      · rw [hN] at NC HE
        simp only [if_true] at HE
        clear hN
        go_wp2_with (go_at_call 43; (with_reducible refine (NC.out _).mono ?_); rintro e w7 ⟨rfl, rfl⟩)
        go_ret
        exact ⟨by rw [HE.out]; rfl, hbl.alloc _⟩
      · rw [hN] at NC HE
        clear hN
        cases hY : (l.take k).any (isN l[k].1)
        · rw [hY] at CC HE
          simp only [Bool.true_eq_false, if_false, Bool.false_eq_true] at HE
          clear hY
          go_wp2_with (first | (go_at_call 43; (with_reducible refine (NC.out _).mono ?_); rintro e w7 ⟨rfl, rfl⟩) | (go_at_call 56; (with_reducible refine (CC.out _ hIn HA3.out).mono ?_); rintro e w8 ⟨rfl, hb8⟩))
          go_roundw
          case rel => exact ⟨k + 1, by omega, by go_num, HE, (hbl.alloc _).trans hb8⟩
          case measure => simp [intOf]; omega
        · rw [hY] at CC HE
          simp only [Bool.true_eq_false, if_false, if_true] at HE
          clear hY
          go_wp2_with (first | (go_at_call 43; (with_reducible refine (NC.out _).mono ?_); rintro e w7 ⟨rfl, rfl⟩) | (go_at_call 56; (with_reducible refine (CC.out _ hIn HA3.out).mono ?_); rintro e w8 ⟨rfl, hb8⟩))
          go_ret
          exact ⟨by rw [HE.out]; rfl, (hbl.alloc _).trans hb8⟩
    · have HE := Lib.hid (show atE l = 0 by rw [HP.out, List.drop_eq_nil_of_le (by omega)]; rfl)
      go_wp2
      go_ret
      exact ⟨by rw [HE.out]; rfl, hbl⟩
end Go.Proofs.YtjclpmpphkmpdaaGreatDoor

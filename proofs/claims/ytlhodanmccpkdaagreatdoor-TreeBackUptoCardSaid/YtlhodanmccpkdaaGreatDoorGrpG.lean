/- Trees: stays; names; put; close. · Tokens: Check of the program. -/
import Derived.Test.YtlhodanmccpkdaaGreatDoorTreD
import Derived.Test.YtlhodanmccpkdaaGreatDoorGrpF
import Derived.Test.YtlhodanmccpkdaaGreatDoorGrpC
namespace Go.Proofs.YtlhodanmccpkdaaGreatDoor
open Go.RowKit

theorem abI_some {nm : Nm} {p : Nm → Bool} {l : List Nm} {i : Nat} (h : abv nm p l.reverse = some i) : abI nm p l = i ∧ i < l.length := by
  refine ⟨by unfold abI; rw [h], ?_⟩
  have := abv_lt _ _ _ _ h
  simpa using this
theorem abI_none {nm : Nm} {p : Nm → Bool} {l : List Nm} (h : abv nm p l.reverse = none) : abI nm p l = -1 := by unfold abI; rw [h]
theorem StS.take {w : World} {g o c : Nat} {l : List Nm} (h : StS w (.slice (some ⟨g, o, none⟩) l.length c) l) (k : Nat) (hk : k ≤ l.length) : StS w (.slice (some ⟨g, o, none⟩) k c) (l.take k) := by
  obtain ⟨ao, cap, e, hc, h⟩ := h
  cases e
  have hl : (l.take k).length = k := by simp; omega
  refine ⟨_, _, by rw [hl], by omega, fun i hi => ?_⟩
  rw [hl] at hi
  obtain ⟨g', o', e, h1, h2⟩ := h i (by omega)
  cases e
  exact ⟨g, o, rfl, h1, by simpa using h2⟩
/-- How many stay open, of names the outermost first. -/
def stI (l : List Nm) (nm : Nm) : Nat := cls l.reverse nm
theorem rev_take (l : List Nm) (i : Nat) (_h : i ≤ l.length) : (l.take i).reverse = l.reverse.drop (l.length - i) := by
  rw [List.reverse_take]
theorem cls_pl {r : List Nm} {nm : Nm} (hb : blkN nm = false) : cls r nm = r.length := by
  have h : nm ≠ sLi := by rintro rfl; revert hb; decide
  unfold cls cls1
  rw [if_neg h, if_neg (by simp [hb])]
theorem cls_bk {r : List Nm} {nm : Nm} (hb : blkN nm = true) (h : nm ≠ sLi) : cls r nm = (abv sP wallN r).getD r.length := by
  unfold cls cls1
  rw [if_neg h, if_pos hb]
theorem cls_li {r : List Nm} : cls r sLi = (abv sLi ulolN (r.drop (r.length - (abv sP wallN r).getD r.length))).getD ((abv sP wallN r).getD r.length) := by
  unfold cls cls1
  rw [if_pos rfl, if_pos (by decide)]
set_option maxHeartbeats 1000000 in
theorem stays_c (l : List Nm) (v : Value) (nm : Nm) (hl : l.length ≤ 1099511627776) (w : World) (hA : StS w v l) :
    Calls Tryz.prog 39 #[v, .string ⟨nm.toArray⟩] w fun e w' => e = .returned (.int .i64 (stI l nm)) ∧ w = w' := by
  have A1 := fun v l (h : StS w v l) (hl : l.length ≤ 1099511627776) => (show Calls Tryz.prog 41 #[v, .string ⟨#[112]⟩, .func (.func 53) #[] #[]] w (fun e w' => e = .returned (.int .i64 (abI sP wallN l)) ∧ w = w') from above_c _ _ do_wall l v sP hl w h)
  have A2 := fun v l (h : StS w v l) (hl : l.length ≤ 1099511627776) => (show Calls Tryz.prog 41 #[v, .string ⟨#[108, 105]⟩, .func (.func 54) #[] #[]] w (fun e w' => e = .returned (.int .i64 (abI sLi ulolN l)) ∧ w = w') from above_c _ _ do_ulol l v sLi hl w h)
  have BC := block_c nm w
  cases hb : blkN nm
  · have HR := Lib.hid (show stI l nm = l.length by unfold stI; rw [cls_pl hb]; simp)
    have h1 : (nm == [108, 105]) = false := by
      have : nm ≠ sLi := by rintro rfl; revert hb; decide
      simpa [sLi] using this
    rw [hb] at BC
    have BC := Lib.hid BC
    obtain ⟨ao, cap, rfl, hc, -⟩ := hA
    clear hb A1 A2
    go_enter Tryz.func39, Tryz.ntmps39
    go_wp2_with (go_at_call 52; (with_reducible refine BC.out.mono ?_); rintro e w' ⟨rfl, rfl⟩)
    go_ret
    exact ⟨ret_int (by rw [HR.out]), rfl⟩
  · rw [hb] at BC
    have BC := Lib.hid BC
    cases e1 : abv sP wallN l.reverse with
    | none =>
      have B1 := A1 v l hA hl
      rw [abI_none e1] at B1
      have B1 := Lib.hid B1
      by_cases hli : nm = sLi
      · subst hli
        have h1 : (sLi == [108, 105]) = true := by decide
        cases e2 : abv sLi ulolN l.reverse with
        | none =>
          have B2 := A2 v l hA hl
          rw [abI_none e2] at B2
          have B2 := Lib.hid B2
          have HR := Lib.hid (show stI l sLi = l.length by unfold stI; rw [cls_li, e1]; simp [e2])
          obtain ⟨ao, cap, rfl, hc, -⟩ := hA
          clear A1 A2 e1 e2 hb
          go_enter Tryz.func39, Tryz.ntmps39
          go_wp2_with (first | (go_at_call 52; (with_reducible refine BC.out.mono ?_); rintro e w' ⟨rfl, rfl⟩) | (go_at_call 41; (with_reducible refine B1.out.mono ?_); rintro e w' ⟨rfl, rfl⟩) | (go_at_call 41; (with_reducible refine B2.out.mono ?_); rintro e w' ⟨rfl, rfl⟩))
          go_ret
          exact ⟨ret_int (by rw [HR.out]), rfl⟩
        | some j =>
          obtain ⟨q1, q2⟩ := abI_some e2
          have B2 := A2 v l hA hl
          rw [q1] at B2
          have B2 := Lib.hid B2
          have HR := Lib.hid (show stI l sLi = j by unfold stI; rw [cls_li, e1]; simp [e2])
          obtain ⟨ao, cap, rfl, hc, h⟩ := hA
          obtain ⟨g, o, rfl, -⟩ := h j q2
          have q3 : (j : Int) ≤ (cap : Int) := by omega
          clear A1 A2 e1 e2 hb h q1
          go_enter Tryz.func39, Tryz.ntmps39
          go_wp2_with (first | (go_at_call 52; (with_reducible refine BC.out.mono ?_); rintro e w' ⟨rfl, rfl⟩) | (go_at_call 41; (with_reducible refine B1.out.mono ?_); rintro e w' ⟨rfl, rfl⟩) | (go_at_call 41; (with_reducible refine B2.out.mono ?_); rintro e w' ⟨rfl, rfl⟩))
          go_ret
          exact ⟨ret_int (by rw [HR.out]), rfl⟩
      · have h1 : (nm == [108, 105]) = false := by simpa [sLi] using hli
        have HR := Lib.hid (show stI l nm = l.length by unfold stI; rw [cls_bk hb hli, e1]; simp)
        obtain ⟨ao, cap, rfl, hc, -⟩ := hA
        clear A1 A2 e1 hb hli
        go_enter Tryz.func39, Tryz.ntmps39
        go_wp2_with (first | (go_at_call 52; (with_reducible refine BC.out.mono ?_); rintro e w' ⟨rfl, rfl⟩) | (go_at_call 41; (with_reducible refine B1.out.mono ?_); rintro e w' ⟨rfl, rfl⟩))
        go_ret
        exact ⟨ret_int (by rw [HR.out]), rfl⟩
    | some i =>
      obtain ⟨p1, p2⟩ := abI_some e1
      have B1 := A1 v l hA hl
      rw [p1] at B1
      have B1 := Lib.hid B1
      obtain ⟨ao, cap, rfl, hc, h⟩ := hA
      obtain ⟨g, o, rfl, -⟩ := h i p2
      have hA' : StS w (.slice (some ⟨g, o, none⟩) i cap) (l.take i) := StS.take ⟨_, _, rfl, hc, h⟩ i (by omega)
      have hl' : (l.take i).length = i := by simp; omega
      have hdr : l.reverse.drop (l.reverse.length - i) = (l.take i).reverse := by rw [rev_take l i (by omega)]; simp
      have p3 : (i : Int) ≤ (cap : Int) := by omega
      by_cases hli : nm = sLi
      · subst hli
        have h1 : (sLi == [108, 105]) = true := by decide
        cases e2 : abv sLi ulolN (l.take i).reverse with
        | none =>
          have B2 := A2 _ _ hA' (by omega)
          rw [abI_none e2] at B2
          have B2 := Lib.hid B2
          have HR := Lib.hid (show stI l sLi = i by unfold stI; rw [cls_li, e1, Option.getD_some, hdr, e2]; rfl)
          clear A1 A2 e1 e2 hb h hA' hl' hdr p1
          go_enter Tryz.func39, Tryz.ntmps39
          go_wp2_with (first | (go_at_call 52; (with_reducible refine BC.out.mono ?_); rintro e w' ⟨rfl, rfl⟩) | (go_at_call 41; (with_reducible refine B1.out.mono ?_); rintro e w' ⟨rfl, rfl⟩) | (go_at_call 41; (with_reducible refine B2.out.mono ?_); rintro e w' ⟨rfl, rfl⟩))
          go_ret
          exact ⟨ret_int (by rw [HR.out]), rfl⟩
        | some j =>
          obtain ⟨q1, q2⟩ := abI_some e2
          have B2 := A2 _ _ hA' (by omega)
          rw [q1] at B2
          have B2 := Lib.hid B2
          have HR := Lib.hid (show stI l sLi = j by unfold stI; rw [cls_li, e1, Option.getD_some, hdr, e2]; rfl)
          have q3 : (j : Int) ≤ (cap : Int) := by omega
          clear A1 A2 e1 e2 hb h hA' hl' hdr p1 q1
          go_enter Tryz.func39, Tryz.ntmps39
          go_wp2_with (first | (go_at_call 52; (with_reducible refine BC.out.mono ?_); rintro e w' ⟨rfl, rfl⟩) | (go_at_call 41; (with_reducible refine B1.out.mono ?_); rintro e w' ⟨rfl, rfl⟩) | (go_at_call 41; (with_reducible refine B2.out.mono ?_); rintro e w' ⟨rfl, rfl⟩))
          go_ret
          exact ⟨ret_int (by rw [HR.out]), rfl⟩
      · have h1 : (nm == [108, 105]) = false := by simpa [sLi] using hli
        have HR := Lib.hid (show stI l nm = i by unfold stI; rw [cls_bk hb hli, e1]; rfl)
        clear A1 A2 e1 hb hli h hA' hl' hdr p1
        go_enter Tryz.func39, Tryz.ntmps39
        go_wp2_with (first | (go_at_call 52; (with_reducible refine BC.out.mono ?_); rintro e w' ⟨rfl, rfl⟩) | (go_at_call 41; (with_reducible refine B1.out.mono ?_); rintro e w' ⟨rfl, rfl⟩))
        go_ret
        exact ⟨ret_int (by rw [HR.out]), rfl⟩
end Go.Proofs.YtlhodanmccpkdaaGreatDoor

namespace Go.Proofs.YtlhodanmccpkdaaGreatDoor
open Go.RowKit

theorem cf_name : ∀ (args : Array Value) (W : World), Sem.run Tryz.prog (callFunc 34 args) W = .ok (.enter 34 args) W := by
  intro args W
  simp [callFunc, go_sem, Tryz.func34, Tryz.f34]
theorem AtS.take {w : World} {g o c : Nat} {l : List Atr} (h : ∀ i (h : i < l.length), w.cell? ⟨g, o + i * 2, none⟩ = some (.string ⟨l[i].1.toArray⟩) ∧ w.cell? ⟨g, o + i * 2 + 1, none⟩ = some (.string ⟨l[i].2.toArray⟩)) (hg : g < w.heap.size) (k : Nat) (hk : k ≤ l.length) : AtS w (.slice (some ⟨g, o, none⟩) k c) (l.take k) := by
  have hl : (l.take k).length = k := by simp; omega
  refine ⟨some ⟨g, o, none⟩, c, by rw [hl], fun i hi => ?_⟩
  rw [hl] at hi
  have hi' : i < l.length := by omega
  refine ⟨g, o, rfl, hg, ?_, ?_⟩
  · have := (h i hi').1; simpa using this
  · have := (h i hi').2; simpa using this
theorem atEF_cons2 (p : List Atr) (a : Atr) (l : List Atr) : atEF p (a :: l) = if isNm a.1 = false then 1 else if (p.any (isN a.1)) then 6 else atEF (p ++ [a]) l := rfl

set_option maxRecDepth 100000 in
set_option maxHeartbeats 2000000 in
theorem attrsE_c (l : List Atr) (v : Value) (hl : l.length ≤ 1099511627776) (hn : ∀ a ∈ l, a.1.length ≤ 1099511627776) (w : World) (hA : AtS w v l) (hC : CapOk v) :
    Calls Tryz.prog 35 #[v, .func (.func 34) #[] #[]] w fun e w' => e = .returned (.int .i64 (atE l)) ∧ Bl w w' := by
  obtain ⟨ao, c, rfl, hA⟩ := hA
  obtain ⟨_, _, _, e, hC⟩ := hC
  cases e
  have hcf := cf_name
  have HNL := Lib.hid hn
  clear hn
  go_enter Tryz.func35, Tryz.ntmps35
  go_wp2
  go_loopw [9] (fun i wr => ∃ k : Nat, k ≤ l.length ∧ i = .int .i64 k ∧ Hid (atE l = atEF (l.take k) (l.drop k)) ∧ Bl w wr) (fun i _ => l.length - (intOf i).toNat)
  case atStart => exact ⟨0, Nat.zero_le _, rfl, Lib.hid rfl, Bl.refl _⟩
  case round =>
    obtain ⟨k, hk, rfl, HP, hbl⟩ := hrel
    by_cases hlt : k < l.length
    · obtain ⟨g, o, rfl, hg, h1, h2⟩ := hA k hlt
      have hcells : ∀ i (h : i < l.length), w.cell? ⟨g, o + i * 2, none⟩ = some (.string ⟨l[i].1.toArray⟩) ∧ w.cell? ⟨g, o + i * 2 + 1, none⟩ = some (.string ⟨l[i].2.toArray⟩) := by
        intro i hi
        obtain ⟨g2, o2, e, _, x1, x2⟩ := hA i hi
        cases e
        exact ⟨x1, x2⟩
      have HA2 := Lib.hid (AtS.take (c := c) hcells hg k hk)
      have y1 := (hbl.cells.1 g _ hg).trans h1
      have y2 := (hbl.cells.1 g _ hg).trans h2
      have hgr : g < wr.heap.size := Nat.lt_of_lt_of_le hg (Below.size hbl)
      have HE := Lib.hid (show atE l = (if isNm l[k].1 = false then 1 else if ((l.take k).any (isN l[k].1)) then 6 else atEF (l.take (k + 1)) (l.drop (k + 1))) by
        rw [HP.out, List.drop_eq_getElem_cons hlt, atEF_cons2, take_snoc l k hlt])
      have NC := Lib.hid (fun W => name_c l[k].1 (by have := HNL.out _ (List.getElem_mem hlt); omega) W)
      have CC := Lib.hid (fun (W : World) (hi1 : InN l[k].1 wr.heap.size W) hi2 => containsF_c _ _ _ _ (do_same2 l[k].1 wr.heap.size) (l.take k) (.slice (some ⟨g, o, none⟩) k c) (by simp; omega) W hi1 hi2)
      have hkc : (k : Int) ≤ (c : Int) := by omega
      have hIn : InN l[k].1 wr.heap.size (wr.alloc (.cells #[.string ⟨l[k].1.toArray⟩, .string ⟨l[k].2.toArray⟩] 65)) := ⟨by simp, by simp⟩
      have hA3 := (HA2.out.of_bl hbl).of_bl ((Bl.refl wr).alloc (.cells #[.string ⟨l[k].1.toArray⟩, .string ⟨l[k].2.toArray⟩] 65))
      have HA3 := Lib.hid hA3
      clear h1 h2 hcells hA hA3
      cases hN : isNm l[k].1
      · rw [hN] at NC HE
        simp only [if_true] at HE
        clear hN
        go_wp2_with (go_at_call 34; (with_reducible refine (NC.out _).mono ?_); rintro e w7 ⟨rfl, rfl⟩)
        go_ret
        exact ⟨by rw [HE.out]; rfl, hbl.alloc _⟩
      · rw [hN] at NC HE
        clear hN
        cases hY : (l.take k).any (isN l[k].1)
        · rw [hY] at CC HE
          simp only [Bool.true_eq_false, if_false, Bool.false_eq_true] at HE
          clear hY
          go_wp2_with (first | (go_at_call 34; (with_reducible refine (NC.out _).mono ?_); rintro e w7 ⟨rfl, rfl⟩) | (go_at_call 47; (with_reducible refine (CC.out _ hIn HA3.out).mono ?_); rintro e w8 ⟨rfl, hb8⟩))
          go_roundw
          case rel => exact ⟨k + 1, by omega, by go_num, HE, (hbl.alloc _).trans hb8⟩
          case measure => simp [intOf]; omega
        · rw [hY] at CC HE
          simp only [Bool.true_eq_false, if_false, if_true] at HE
          clear hY
          go_wp2_with (first | (go_at_call 34; (with_reducible refine (NC.out _).mono ?_); rintro e w7 ⟨rfl, rfl⟩) | (go_at_call 47; (with_reducible refine (CC.out _ hIn HA3.out).mono ?_); rintro e w8 ⟨rfl, hb8⟩))
          go_ret
          exact ⟨by rw [HE.out]; rfl, (hbl.alloc _).trans hb8⟩
    · have HE := Lib.hid (show atE l = 0 by rw [HP.out, List.drop_eq_nil_of_le (by omega)]; rfl)
      go_wp2
      go_ret
      exact ⟨by rw [HE.out]; rfl, hbl⟩
end Go.Proofs.YtlhodanmccpkdaaGreatDoor

/- Documents: elements and kids, a step at a time; what is enough fuel. · Documents: what is wrong with attributes, by what a title is. -/
import Derived.Test.YtkacjnifhmgeiaaGreatDoorGrpE
import Derived.Test.YtkacjnifhmgeiaaGreatDoorXmlC
import Derived.Test.YtkacjnifhmgeiaaGreatDoorGrpJ
namespace Go.Proofs.YtkacjnifhmgeiaaGreatDoor
open Go.RowKit

section
variable {k deep : Nat} {t : List UInt8} {out : List Nd}
theorem ki_close (h : pre [60, 47] t = true) : kiF (k + 1) deep t out = .ok (out, t.drop 2) := by unfold kiF; rw [if_pos h]
theorem ki_cd_no (h1 : pre [60, 47] t = false) (h2 : pre sCd t = true) (h3 : toS sCdE (t.drop 9) = none) : kiF (k + 1) deep t out = .error 1 := by
  unfold kiF; rw [if_neg (by simp [h1]), if_pos h2, h3]
theorem ki_cd {v r : List UInt8} (h1 : pre [60, 47] t = false) (h2 : pre sCd t = true) (h3 : toS sCdE (t.drop 9) = some (v, r)) : kiF (k + 1) deep t out = kiF k deep r (addT out v) := by
  conv => lhs; unfold kiF
  rw [if_neg (by simp [h1]), if_pos h2, h3]
theorem ki_as_err {e : Int} (h1 : pre [60, 47] t = false) (h2 : pre sCd t = false) (h3 : asX t = .error e) : kiF (k + 1) deep t out = .error e := by
  unfold kiF; rw [if_neg (by simp [h1]), if_neg (by simp [h2]), h3]
theorem ki_as {r : List UInt8} (h1 : pre [60, 47] t = false) (h2 : pre sCd t = false) (h3 : asX t = .ok (some r)) : kiF (k + 1) deep t out = kiF k deep r out := by
  conv => lhs; unfold kiF
  rw [if_neg (by simp [h1]), if_neg (by simp [h2]), h3]
theorem ki_el_err {e : Int} (h1 : pre [60, 47] t = false) (h2 : pre sCd t = false) (h3 : asX t = .ok none) (h4 : pre [60] t = true) (h5 : elF k (deep + 1) t = .error e) : kiF (k + 1) deep t out = .error e := by
  unfold kiF; rw [if_neg (by simp [h1]), if_neg (by simp [h2]), h3]
  simp only []
  rw [if_pos h4, h5]
theorem ki_el {d : Nd} {r : List UInt8} (h1 : pre [60, 47] t = false) (h2 : pre sCd t = false) (h3 : asX t = .ok none) (h4 : pre [60] t = true) (h5 : elF k (deep + 1) t = .ok (d, r)) : kiF (k + 1) deep t out = kiF k deep r (out ++ [d]) := by
  conv => lhs; unfold kiF
  rw [if_neg (by simp [h1]), if_neg (by simp [h2]), h3]
  simp only []
  rw [if_pos h4, h5]
theorem ki_pl_no (h1 : pre [60, 47] t = false) (h2 : pre sCd t = false) (h3 : asX t = .ok none) (h4 : pre [60] t = false) (h5 : (Tk (t.takeWhile (· != 60))).2 = false) : kiF (k + 1) deep t out = .error 1 := by
  unfold kiF; rw [if_neg (by simp [h1]), if_neg (by simp [h2]), h3]
  simp only []
  rw [if_neg (by simp [h4]), if_pos h5]
theorem ki_pl_end (h1 : pre [60, 47] t = false) (h2 : pre sCd t = false) (h3 : asX t = .ok none) (h4 : pre [60] t = false) (h6 : t.dropWhile (· != 60) = []) : kiF (k + 1) deep t out = .error 1 := by
  unfold kiF; rw [if_neg (by simp [h1]), if_neg (by simp [h2]), h3]
  simp only []
  rw [if_neg (by simp [h4])]
  rw [if_pos h6]
  split <;> rfl
theorem ki_pl (h1 : pre [60, 47] t = false) (h2 : pre sCd t = false) (h3 : asX t = .ok none) (h4 : pre [60] t = false) (h5 : (Tk (t.takeWhile (· != 60))).2 = true) (h6 : t.dropWhile (· != 60) ≠ []) : kiF (k + 1) deep t out = kiF k deep (t.dropWhile (· != 60)) (addT out (Tk (t.takeWhile (· != 60))).1) := by
  conv => lhs; unfold kiF
  rw [if_neg (by simp [h1]), if_neg (by simp [h2]), h3]
  simp only []
  rw [if_neg (by simp [h4]), if_neg (by simp [h5]), if_neg h6]
end

theorem needX_ok {p t : List UInt8} (h : pre p t = true) : needX p t = .ok (t.drop p.length) := by unfold needX; rw [if_pos h]
theorem needX_er {p t : List UInt8} (h : pre p t = false) : needX p t = .error 1 := by unfold needX; rw [if_neg (by simp [h])]
/-- Behind the title and the attributes of an element. -/
def elR (k deep : Nat) (n : List UInt8) (a : List Atr) (t2 : List UInt8) : Except Int (Nd × List UInt8) :=
  if pre [47, 62] t2 then .ok (.mk n a [] [], t2.drop 2) else if pre [62] t2 = false then .error 1 else match kiF k deep (t2.drop 1) [] with
    | .error e => .error e
    | .ok (l, t4) => match tiX t4 with
      | .error e => .error e
      | .ok (m, t5) => if m ≠ n then .error 4 else if pre [62] (wsX t5) = false then .error 1 else .ok (.mk n a [] l, (wsX t5).drop 1)
theorem elF_eq (k deep : Nat) (t : List UInt8) : elF (k + 1) deep t = if pre [60] t = false then .error 1 else match tiX (t.drop 1) with
    | .error e => .error e
    | .ok (n, t1) => if 8 < deep then .error 2 else match atrX t1 with
      | .error e => .error e
      | .ok (a, t2) => elR k deep n a t2 := by
  unfold elF
  cases h : pre [60] t with
  | false => rw [needX_er h]; rfl
  | true =>
    rw [needX_ok h]
    simp only [List.length_singleton, Bool.true_eq_false, if_false]
    cases tiX (t.drop 1) with
    | error e => rfl
    | ok nt =>
      obtain ⟨n, t1⟩ := nt
      simp only []
      split
      · rfl
      · cases atrX t1 with
        | error e => rfl
        | ok at_ =>
          obtain ⟨a, t2⟩ := at_
          simp only []
          unfold elR
          split
          · rfl
          · cases h2 : pre [62] t2 with
            | false => rw [needX_er h2]; rfl
            | true =>
              rw [needX_ok h2]
              simp only [List.length_singleton, Bool.true_eq_false, if_false]
              cases kiF k deep (t2.drop 1) [] with
              | error e => rfl
              | ok lt =>
                obtain ⟨l, t4⟩ := lt
                simp only []
                cases tiX t4 with
                | error e => rfl
                | ok mt =>
                  obtain ⟨m, t5⟩ := mt
                  simp only []
                  split
                  · rfl
                  · cases h3 : pre [62] (wsX t5) with
                    | false => rw [needX_er h3]; rfl
                    | true => rw [needX_ok h3]; rfl
theorem atrX_len {t : List UInt8} {a : List Atr} {r : List UInt8} (h : atrX t = .ok (a, r)) : r.length ≤ t.length := (asF_right _ _ _ _ _ h rfl).2
/-- A value, a step at a time. -/
theorem vaX_eq (t : List UInt8) : vaX t = if pre [61] (wsX t) = false then .error 1 else
    if pre [if pre [39] (wsX ((wsX t).drop 1)) then 39 else 34] (wsX ((wsX t).drop 1)) = false then .error 1 else
      match toS [if pre [39] (wsX ((wsX t).drop 1)) then 39 else 34] ((wsX ((wsX t).drop 1)).drop 1) with
      | none => .error 1
      | some (v, r) => if 60 ∈ v then .error 1 else if (Tk v).2 then .ok ((Tk v).1, r) else .error 1 := by
  unfold vaX
  cases h : pre [61] (wsX t) with
  | false => rw [needX_er h]; rfl
  | true =>
    rw [needX_ok h]
    simp only [List.length_singleton, Bool.true_eq_false, if_false]
    generalize (if pre [39] (wsX ((wsX t).drop 1)) = true then (39 : UInt8) else 34) = q
    cases h2 : pre [q] (wsX ((wsX t).drop 1)) with
    | false => rw [needX_er h2]; rfl
    | true => rw [needX_ok h2]; rfl
end Go.Proofs.YtkacjnifhmgeiaaGreatDoor

namespace Go.Proofs.YtkacjnifhmgeiaaGreatDoor
open Go.RowKit

theorem cf_title : ∀ (args : Array Value) (W : World), Sem.run Tryz.prog (callFunc 53 args) W = .ok (.enter 53 args) W := by
  intro args W
  simp [callFunc, go_sem, Tryz.func53, Tryz.f53]
theorem atXF_cons2 (p : List Atr) (a : Atr) (l : List Atr) : atXF p (a :: l) = if isTi a.1 = false then 1 else if (p.any (isN a.1)) then 6 else atXF (p ++ [a]) l := rfl

set_option maxRecDepth 100000 in
set_option maxHeartbeats 2000000 in
theorem attrsT_c (l : List Atr) (v : Value) (hl : l.length ≤ 1099511627776) (hn : ∀ a ∈ l, a.1.length ≤ 1099511627776) (w : World) (hA : AtS w v l) (hC : CapOk v) :
    Calls Tryz.prog 54 #[v, .func (.func 53) #[] #[]] w fun e w' => e = .returned (.int .i64 (atX l)) ∧ Bl w w' := by
  obtain ⟨ao, c, rfl, hA⟩ := hA
  obtain ⟨_, _, _, e, hC⟩ := hC
  cases e
  have hcf := cf_title
  have HNL := Lib.hid hn
  clear hn
  go_enter Tryz.func54, Tryz.ntmps54
  go_wp2
  go_loopw [9] (fun i wr => ∃ k : Nat, k ≤ l.length ∧ i = .int .i64 k ∧ Hid (atX l = atXF (l.take k) (l.drop k)) ∧ Bl w wr) (fun i _ => l.length - (intOf i).toNat)
  case atStart => exact ⟨0, Nat.zero_le _, rfl, Lib.hid rfl, Bl.refl _⟩
  case round =>
    obtain ⟨k, hk, rfl, HP, hbl⟩ := hrel
    by_cases hlt : k < l.length
    · obtain ⟨g, o, rfl, hg, h1, h2⟩ := hA k hlt
      have hcells : ∀ i (h : i < l.length), w.cell? ⟨g, o + i * 2, none⟩ = some (.string ⟨l[i].1.toArray⟩) ∧ w.cell? ⟨g, o + i * 2 + 1, none⟩ = some (.string ⟨l[i].2.toArray⟩) := by
        intro i hi
        obtain ⟨g2, o2, e, _, x1, x2⟩ := hA i hi
        cases e
        exact ⟨x1, x2⟩
      have HA2 := Lib.hid (AtS.take (c := c) hcells hg k hk)
      have y1 := (hbl.cells.1 g _ hg).trans h1
      have y2 := (hbl.cells.1 g _ hg).trans h2
      have hgr : g < wr.heap.size := Nat.lt_of_lt_of_le hg (Below.size hbl)
      have HE := Lib.hid (show atX l = (if isTi l[k].1 = false then 1 else if ((l.take k).any (isN l[k].1)) then 6 else atXF (l.take (k + 1)) (l.drop (k + 1))) by
        rw [HP.out, List.drop_eq_getElem_cons hlt, atXF_cons2, take_snoc l k hlt])
      have NC := Lib.hid (fun W => titleP_c l[k].1 (by have := HNL.out _ (List.getElem_mem hlt); omega) W)
      have CC := Lib.hid (fun (W : World) (hi1 : InN l[k].1 wr.heap.size W) hi2 => containsF_c _ _ _ _ (do_same2 l[k].1 wr.heap.size) (l.take k) (.slice (some ⟨g, o, none⟩) k c) (by simp; omega) W hi1 hi2)
      have hkc : (k : Int) ≤ (c : Int) := by omega
      have hIn : InN l[k].1 wr.heap.size (wr.alloc (.cells #[.string ⟨l[k].1.toArray⟩, .string ⟨l[k].2.toArray⟩] 39)) := ⟨by simp, by simp⟩
      have hA3 := (HA2.out.of_bl hbl).of_bl ((Bl.refl wr).alloc (.cells #[.string ⟨l[k].1.toArray⟩, .string ⟨l[k].2.toArray⟩] 39))
      have HA3 := Lib.hid hA3
      clear h1 h2 hcells hA hA3
      cases hN : isTi l[k].1
      · rw [hN] at NC HE
        simp only [if_true] at HE
        clear hN
        go_wp2_with (go_at_call 53; (with_reducible refine (NC.out _).mono ?_); rintro e w7 ⟨rfl, rfl⟩)
        go_ret
        exact ⟨by rw [HE.out]; rfl, hbl.alloc _⟩
      · rw [hN] at NC HE
        clear hN
        cases hY : (l.take k).any (isN l[k].1)
        · rw [hY] at CC HE
          simp only [Bool.true_eq_false, if_false, Bool.false_eq_true] at HE
          clear hY
          go_wp2_with (first | (go_at_call 53; (with_reducible refine (NC.out _).mono ?_); rintro e w7 ⟨rfl, rfl⟩) | (go_at_call 70; (with_reducible refine (CC.out _ hIn HA3.out).mono ?_); rintro e w8 ⟨rfl, hb8⟩))
          go_roundw
          case rel => exact ⟨k + 1, by omega, by go_num, HE, (hbl.alloc _).trans hb8⟩
          case measure => simp [intOf]; omega
        · rw [hY] at CC HE
          simp only [Bool.true_eq_false, if_false, if_true] at HE
          clear hY
          go_wp2_with (first | (go_at_call 53; (with_reducible refine (NC.out _).mono ?_); rintro e w7 ⟨rfl, rfl⟩) | (go_at_call 70; (with_reducible refine (CC.out _ hIn HA3.out).mono ?_); rintro e w8 ⟨rfl, hb8⟩))
          go_ret
          exact ⟨by rw [HE.out]; rfl, (hbl.alloc _).trans hb8⟩
    · have HE := Lib.hid (show atX l = 0 by rw [HP.out, List.drop_eq_nil_of_le (by omega)]; rfl)
      go_wp2
      go_ret
      exact ⟨by rw [HE.out]; rfl, hbl⟩
end Go.Proofs.YtkacjnifhmgeiaaGreatDoor

/- Trees: the reference's IsEmpty and Closes (printed by gen_closes.py). · Trees: close. -/
import Derived.Test.YtjclpmpphkmpdaaGreatDoorGrpI
import Derived.Test.YtjclpmpphkmpdaaGreatDoorGrpK
namespace Go.Proofs.YtjclpmpphkmpdaaGreatDoor
open Go.RowKit

theorem isEmptyR_c (n : Nm) (w : World) : Calls Tryz.prog 25 #[.string ⟨n.toArray⟩] w fun e w' => e = .returned (.bool (emptyN n)) ∧ w = w' := by
  go_enter Tryz.func25, Tryz.ntmps25
  go_wp2
  all_goals (go_ret; exact ⟨ret_bool (by rw [Bool.eq_iff_iff]; simp [emptyN, sBr, sHr, sImg, *] <;> exact decide_eq_true_iff.symm), rfl⟩)
theorem abv_take (nm : Nm) (p : Nm → Bool) (l : List Nm) (j : Nat) (h : j < l.length) : abv nm p (l.take (j + 1)).reverse = if l[j] = nm then some j else if p l[j] then none else abv nm p (l.take j).reverse := by
  rw [take_snoc l j h, List.reverse_append]
  simp only [List.reverse_singleton, List.singleton_append, abv, List.length_reverse, List.length_take, Nat.min_eq_left (Nat.le_of_lt h)]
theorem rev_drop (l : List Nm) (j : Nat) (h : j ≤ l.length) : l.reverse.drop (l.length - j) = (l.take j).reverse := (rev_take l j h).symm
theorem nb {n : Nm} {c : Nm} (h : ¬ n = c) : (n == c) = false := by simpa using h
theorem yb {n : Nm} {c : Nm} (h : n = c) : (n == c) = true := by simpa using h
theorem wall_f {n : Nm} (h : wallN n = false) : (n == [117, 108]) = false ∧ (n == [111, 108]) = false ∧ (n == [108, 105]) = false ∧ (n == [98, 108, 111, 99, 107, 113, 117, 111, 116, 101]) = false := by
  simp only [wallN, Bool.or_eq_false_iff, decide_eq_false_iff_not] at h
  exact ⟨nb h.1.1.1, nb h.1.1.2, nb h.1.2, nb h.2⟩
theorem wall_t {n : Nm} (h : wallN n = true) : (n == [117, 108]) = true ∨ ((n == [117, 108]) = false ∧ (n == [111, 108]) = true) ∨ ((n == [117, 108]) = false ∧ (n == [111, 108]) = false ∧ (n == [108, 105]) = true) ∨
    ((n == [117, 108]) = false ∧ (n == [111, 108]) = false ∧ (n == [108, 105]) = false ∧ (n == [98, 108, 111, 99, 107, 113, 117, 111, 116, 101]) = true) := by
  simp only [wallN, Bool.or_eq_true, decide_eq_true_eq] at h
  by_cases a : n = sUl
  · exact .inl (yb a)
  by_cases b : n = sOl
  · exact .inr (.inl ⟨nb a, yb b⟩)
  by_cases c : n = sLi
  · exact .inr (.inr (.inl ⟨nb a, nb b, yb c⟩))
  · exact .inr (.inr (.inr ⟨nb a, nb b, nb c, yb (by rcases h with ((h | h) | h) | h <;> first | exact absurd h a | exact absurd h b | exact absurd h c | exact h)⟩))
theorem ulol_f {n : Nm} (h : ulolN n = false) : (n == [117, 108]) = false ∧ (n == [111, 108]) = false := by
  simp only [ulolN, Bool.or_eq_false_iff, decide_eq_false_iff_not] at h
  exact ⟨nb h.1, nb h.2⟩
theorem ulol_t {n : Nm} (h : ulolN n = true) : (n == [117, 108]) = true ∨ ((n == [117, 108]) = false ∧ (n == [111, 108]) = true) := by
  simp only [ulolN, Bool.or_eq_true, decide_eq_true_eq] at h
  by_cases a : n = sUl
  · exact .inl (yb a)
  · exact .inr ⟨nb a, yb (by rcases h with h | h <;> first | exact absurd h a | exact h)⟩
set_option maxRecDepth 100000 in
set_option maxHeartbeats 4000000 in
theorem closes_c (l : List Nm) (v : Value) (nm : Nm) (hl : l.length ≤ 1099511627776) (w : World) (hA : StS w v l) :
    Calls Tryz.prog 24 #[v, .string ⟨nm.toArray⟩] w fun e w' => e = .returned (.int .i64 (stI l nm)) ∧ w = w' := by
  obtain ⟨ao, cap, rfl, hc, hA⟩ := hA
  have HA := Lib.hid hA
  clear hA
  cases hb : blkN nm
  · have HR := Lib.hid (show stI l nm = l.length by unfold stI; rw [cls_pl hb]; simp)
    have hb2 : wallN nm = false ∧ ¬ nm = sP ∧ ¬ nm = sHr := by
      simp only [blkN, Bool.or_eq_false_iff, decide_eq_false_iff_not] at hb
      exact ⟨hb.1.1, hb.1.2, hb.2⟩
    obtain ⟨t1, t2, t3, t4⟩ := wall_f hb2.1
    have t5 : (nm == [112]) = false := nb hb2.2.1
    have t6 : (nm == [104, 114]) = false := nb hb2.2.2
    clear hb hb2
    go_enter Tryz.func24, Tryz.ntmps24
    go_wp2
    go_ret
    exact ⟨ret_int (by rw [HR.out]), rfl⟩
  · by_cases hli : nm = sLi
    · subst hli
      unfold sLi
      go_enter Tryz.func24, Tryz.ntmps24
      go_wp2
      go_loop [5, 6] (fun m i => ∃ k : Int, -1 ≤ k ∧ k < l.length ∧ m = .int .i64 l.length ∧ i = .int .i64 k ∧ Hid (abv sP wallN l.reverse = abv sP wallN (l.take (k + 1).toNat).reverse)) (fun _ i => (intOf i + 1).toNat)
      case atStart => exact ⟨(l.length : Int) - 1, by omega, by omega, rfl, rfl, Lib.hid (by rw [show ((l.length : Int) - 1 + 1).toNat = l.length by omega, List.take_length])⟩
      case round =>
        obtain ⟨k, hk1, hk2, rfl, rfl, HP⟩ := hrel
        by_cases h0 : 0 ≤ k
        · obtain ⟨j, rfl⟩ : ∃ j : Nat, k = (j : Int) := ⟨k.toNat, by omega⟩
          have hj : j < l.length := by omega
          obtain ⟨g, o, rfl, hg, h1⟩ := HA.out j hj
          have HE := Lib.hid (show abv sP wallN l.reverse = _ from by rw [HP.out, show ((j : Int) + 1).toNat = j + 1 by omega, abv_take _ _ l j hj])
          clear HP hk1
          by_cases he : l[j] = sP
          · have HF := Lib.hid (show abv sP wallN l.reverse = some j by rw [HE.out, if_pos he])
            have hf : (l[j] == [112]) = true := by simpa [sP] using he
            clear he
            have HQ := Lib.hid (show stI l sLi = (abv sLi ulolN (l.take j).reverse).getD j by unfold stI; rw [cls_li, HF.out, Option.getD_some, List.length_reverse, rev_drop l j (by omega)])
            go_wp2
            go_loop [7] (fun i => ∃ k : Int, -1 ≤ k ∧ k < j ∧ i = .int .i64 k ∧ Hid (abv sLi ulolN (l.take j).reverse = abv sLi ulolN (l.take (k + 1).toNat).reverse)) (fun i => (intOf i + 1).toNat)
            case atStart => exact ⟨(j : Int) - 1, by omega, by omega, rfl, Lib.hid (by rw [show ((j : Int) - 1 + 1).toNat = j by omega])⟩
            case round =>
              obtain ⟨k2, hk1, hk2, rfl, HP2⟩ := hrel
              by_cases h0 : 0 ≤ k2
              · obtain ⟨j2, rfl⟩ : ∃ j2 : Nat, k2 = (j2 : Int) := ⟨k2.toNat, by omega⟩
                have hj2 : j2 < l.length := by omega
                obtain ⟨g2, o2, e2, hg2, h2⟩ := HA.out j2 hj2
                cases e2
                have HE2 := Lib.hid (show abv sLi ulolN (l.take j).reverse = _ from by rw [HP2.out, show ((j2 : Int) + 1).toNat = j2 + 1 by omega, abv_take _ _ l j2 hj2])
                clear HP2 hk1
                by_cases he2 : l[j2] = sLi
                · have HF2 := Lib.hid (show stI l sLi = j2 by rw [HQ.out, HE2.out, if_pos he2]; rfl)
                  have hf2 : (l[j2] == [108, 105]) = true := by simpa [sLi] using he2
                  clear he2
                  go_wp2
                  go_ret
                  exact ⟨ret_int (by have e := HF2.out; unfold sLi at e; rw [e]), rfl⟩
                · have hf2 : (l[j2] == [108, 105]) = false := by simpa [sLi] using he2
                  cases hp2 : ulolN l[j2]
                  · have HI2 := Lib.hid (show abv sLi ulolN (l.take j).reverse = abv sLi ulolN (l.take j2).reverse by rw [HE2.out, if_neg he2, hp2]; rfl)
                    obtain ⟨u1, u2⟩ := ulol_f hp2
                    clear he2 hp2
                    go_wp2
                    go_round
                    case rel => exact ⟨(j2 : Int) - 1, by omega, by omega, rfl, Lib.hid (by rw [HI2.out, show ((j2 : Int) - 1 + 1).toNat = j2 by omega])⟩
                    case measure => simp [intOf] <;> omega
                  · have HI2 := Lib.hid (show stI l sLi = j by rw [HQ.out, HE2.out, if_neg he2, hp2]; rfl)
                    rcases ulol_t hp2 with u1 | ⟨u1, u2⟩
                    all_goals
                      clear he2 hp2
                      go_wp2
                      go_ret
                      exact ⟨ret_int (by have e := HI2.out; unfold sLi at e; rw [e]), rfl⟩
              · have HF2 := Lib.hid (show stI l sLi = j by rw [HQ.out, HP2.out, show (k2 + 1).toNat = 0 by omega]; rfl)
                clear HP2
                go_wp2
                go_ret
                exact ⟨ret_int (by have e := HF2.out; unfold sLi at e; rw [e]), rfl⟩
          · have hf : (l[j] == [112]) = false := by simpa [sP] using he
            cases hp : wallN l[j]
            · have HI := Lib.hid (show abv sP wallN l.reverse = abv sP wallN (l.take j).reverse by rw [HE.out, if_neg he, hp]; rfl)
              obtain ⟨t1, t2, t3, t4⟩ := wall_f hp
              clear he hp
              go_wp2
              go_round
              case rel => exact ⟨(j : Int) - 1, by omega, by omega, rfl, rfl, Lib.hid (by rw [HI.out, show ((j : Int) - 1 + 1).toNat = j by omega])⟩
              case measure => simp [intOf] <;> omega
            · have HI := Lib.hid (show abv sP wallN l.reverse = none by rw [HE.out, if_neg he, hp]; rfl)
              rcases wall_t hp with t1 | ⟨t1, t2⟩ | ⟨t1, t2, t3⟩ | ⟨t1, t2, t3, t4⟩
              all_goals
                clear he hp
                have HQ := Lib.hid (show stI l sLi = (abv sLi ulolN (l.take l.length).reverse).getD l.length by unfold stI; rw [cls_li, HI.out, Option.getD_none, Nat.sub_self, List.drop_zero, List.length_reverse, List.take_length])
                go_wp2
                go_loop [7] (fun i => ∃ k : Int, -1 ≤ k ∧ k < l.length ∧ i = .int .i64 k ∧ Hid (abv sLi ulolN (l.take l.length).reverse = abv sLi ulolN (l.take (k + 1).toNat).reverse)) (fun i => (intOf i + 1).toNat)
                case atStart => exact ⟨(l.length : Int) - 1, by omega, by omega, rfl, Lib.hid (by rw [show ((l.length : Int) - 1 + 1).toNat = l.length by omega])⟩
                case round =>
                  obtain ⟨k2, hk1, hk2, rfl, HP2⟩ := hrel
                  by_cases h0 : 0 ≤ k2
                  · obtain ⟨j2, rfl⟩ : ∃ j2 : Nat, k2 = (j2 : Int) := ⟨k2.toNat, by omega⟩
                    have hj2 : j2 < l.length := by omega
                    obtain ⟨g2, o2, e2, hg2, h2⟩ := HA.out j2 hj2
                    cases e2
                    have HE2 := Lib.hid (show abv sLi ulolN (l.take l.length).reverse = _ from by rw [HP2.out, show ((j2 : Int) + 1).toNat = j2 + 1 by omega, abv_take _ _ l j2 hj2])
                    clear HP2 hk1
                    by_cases he2 : l[j2] = sLi
                    · have HF2 := Lib.hid (show stI l sLi = j2 by rw [HQ.out, HE2.out, if_pos he2]; rfl)
                      have hf2 : (l[j2] == [108, 105]) = true := by simpa [sLi] using he2
                      clear he2
                      go_wp2
                      go_ret
                      exact ⟨ret_int (by have e := HF2.out; unfold sLi at e; rw [e]), rfl⟩
                    · have hf2 : (l[j2] == [108, 105]) = false := by simpa [sLi] using he2
                      cases hp2 : ulolN l[j2]
                      · have HI2 := Lib.hid (show abv sLi ulolN (l.take l.length).reverse = abv sLi ulolN (l.take j2).reverse by rw [HE2.out, if_neg he2, hp2]; rfl)
                        obtain ⟨u1, u2⟩ := ulol_f hp2
                        clear he2 hp2
                        go_wp2
                        go_round
                        case rel => exact ⟨(j2 : Int) - 1, by omega, by omega, rfl, Lib.hid (by rw [HI2.out, show ((j2 : Int) - 1 + 1).toNat = j2 by omega])⟩
                        case measure => simp [intOf] <;> omega
                      · have HI2 := Lib.hid (show stI l sLi = l.length by rw [HQ.out, HE2.out, if_neg he2, hp2]; rfl)
                        rcases ulol_t hp2 with u1 | ⟨u1, u2⟩
                        all_goals
                          clear he2 hp2
                          go_wp2
                          go_ret
                          exact ⟨ret_int (by have e := HI2.out; unfold sLi at e; rw [e]), rfl⟩
                  · have HF2 := Lib.hid (show stI l sLi = l.length by rw [HQ.out, HP2.out, show (k2 + 1).toNat = 0 by omega]; rfl)
                    clear HP2
                    go_wp2
                    go_ret
                    exact ⟨ret_int (by have e := HF2.out; unfold sLi at e; rw [e]), rfl⟩
        · have HF := Lib.hid (show abv sP wallN l.reverse = none by rw [HP.out, show (k + 1).toNat = 0 by omega]; rfl)
          clear HP
          have HQ := Lib.hid (show stI l sLi = (abv sLi ulolN (l.take l.length).reverse).getD l.length by unfold stI; rw [cls_li, HF.out, Option.getD_none, Nat.sub_self, List.drop_zero, List.length_reverse, List.take_length])
          go_wp2
          go_loop [7] (fun i => ∃ k : Int, -1 ≤ k ∧ k < l.length ∧ i = .int .i64 k ∧ Hid (abv sLi ulolN (l.take l.length).reverse = abv sLi ulolN (l.take (k + 1).toNat).reverse)) (fun i => (intOf i + 1).toNat)
          case atStart => exact ⟨(l.length : Int) - 1, by omega, by omega, rfl, Lib.hid (by rw [show ((l.length : Int) - 1 + 1).toNat = l.length by omega])⟩
          case round =>
            obtain ⟨k2, hk1, hk2, rfl, HP2⟩ := hrel
            by_cases h0 : 0 ≤ k2
            · obtain ⟨j2, rfl⟩ : ∃ j2 : Nat, k2 = (j2 : Int) := ⟨k2.toNat, by omega⟩
              have hj2 : j2 < l.length := by omega
              obtain ⟨g2, o2, e2, hg2, h2⟩ := HA.out j2 hj2
              cases e2
              have HE2 := Lib.hid (show abv sLi ulolN (l.take l.length).reverse = _ from by rw [HP2.out, show ((j2 : Int) + 1).toNat = j2 + 1 by omega, abv_take _ _ l j2 hj2])
              clear HP2 hk1
              by_cases he2 : l[j2] = sLi
              · have HF2 := Lib.hid (show stI l sLi = j2 by rw [HQ.out, HE2.out, if_pos he2]; rfl)
                have hf2 : (l[j2] == [108, 105]) = true := by simpa [sLi] using he2
                clear he2
                go_wp2
                go_ret
                exact ⟨ret_int (by have e := HF2.out; unfold sLi at e; rw [e]), rfl⟩
              · have hf2 : (l[j2] == [108, 105]) = false := by simpa [sLi] using he2
                cases hp2 : ulolN l[j2]
                · have HI2 := Lib.hid (show abv sLi ulolN (l.take l.length).reverse = abv sLi ulolN (l.take j2).reverse by rw [HE2.out, if_neg he2, hp2]; rfl)
                  obtain ⟨u1, u2⟩ := ulol_f hp2
                  clear he2 hp2
                  go_wp2
                  go_round
                  case rel => exact ⟨(j2 : Int) - 1, by omega, by omega, rfl, Lib.hid (by rw [HI2.out, show ((j2 : Int) - 1 + 1).toNat = j2 by omega])⟩
                  case measure => simp [intOf] <;> omega
                · have HI2 := Lib.hid (show stI l sLi = l.length by rw [HQ.out, HE2.out, if_neg he2, hp2]; rfl)
                  rcases ulol_t hp2 with u1 | ⟨u1, u2⟩
                  all_goals
                    clear he2 hp2
                    go_wp2
                    go_ret
                    exact ⟨ret_int (by have e := HI2.out; unfold sLi at e; rw [e]), rfl⟩
            · have HF2 := Lib.hid (show stI l sLi = l.length by rw [HQ.out, HP2.out, show (k2 + 1).toNat = 0 by omega]; rfl)
              clear HP2
              go_wp2
              go_ret
              exact ⟨ret_int (by have e := HF2.out; unfold sLi at e; rw [e]), rfl⟩
    · have hlf : (nm == [108, 105]) = false := nb hli
      have hcc : (nm == [112]) = true ∨ ((nm == [112]) = false ∧ (nm == [104, 114]) = true) ∨ ((nm == [112]) = false ∧ (nm == [104, 114]) = false ∧ (nm == [117, 108]) = true) ∨ ((nm == [112]) = false ∧ (nm == [104, 114]) = false ∧ (nm == [117, 108]) = false ∧ (nm == [111, 108]) = true) ∨
          ((nm == [112]) = false ∧ (nm == [104, 114]) = false ∧ (nm == [117, 108]) = false ∧ (nm == [111, 108]) = false ∧ (nm == [98, 108, 111, 99, 107, 113, 117, 111, 116, 101]) = true) := by
        have hb2 := hb
        simp only [blkN, Bool.or_eq_true, decide_eq_true_eq] at hb2
        by_cases a : nm = sP
        · exact .inl (yb a)
        by_cases b : nm = sHr
        · exact .inr (.inl ⟨nb a, yb b⟩)
        have hw : wallN nm = true := by rcases hb2 with (h | h) | h <;> first | exact h | exact absurd h a | exact absurd h b
        rcases wall_t hw with t1 | ⟨t1, t2⟩ | ⟨t1, t2, t3⟩ | ⟨t1, t2, t3, t4⟩
        · exact .inr (.inr (.inl ⟨nb a, nb b, t1⟩))
        · exact .inr (.inr (.inr (.inl ⟨nb a, nb b, t1, t2⟩)))
        · rw [hlf] at t3; cases t3
        · exact .inr (.inr (.inr (.inr ⟨nb a, nb b, t1, t2, t4⟩)))
      rcases hcc with s1 | ⟨s1, s2⟩ | ⟨s1, s2, s3⟩ | ⟨s1, s2, s3, s4⟩ | ⟨s1, s2, s3, s4, s5⟩
      all_goals
        go_enter Tryz.func24, Tryz.ntmps24
        go_wp2
        go_loop [5, 6] (fun m i => ∃ k : Int, -1 ≤ k ∧ k < l.length ∧ m = .int .i64 l.length ∧ i = .int .i64 k ∧ Hid (abv sP wallN l.reverse = abv sP wallN (l.take (k + 1).toNat).reverse)) (fun _ i => (intOf i + 1).toNat)
        case atStart => exact ⟨(l.length : Int) - 1, by omega, by omega, rfl, rfl, Lib.hid (by rw [show ((l.length : Int) - 1 + 1).toNat = l.length by omega, List.take_length])⟩
        case round =>
          obtain ⟨k, hk1, hk2, rfl, rfl, HP⟩ := hrel
          by_cases h0 : 0 ≤ k
          · obtain ⟨j, rfl⟩ : ∃ j : Nat, k = (j : Int) := ⟨k.toNat, by omega⟩
            have hj : j < l.length := by omega
            obtain ⟨g, o, rfl, hg, h1⟩ := HA.out j hj
            have HE := Lib.hid (show abv sP wallN l.reverse = _ from by rw [HP.out, show ((j : Int) + 1).toNat = j + 1 by omega, abv_take _ _ l j hj])
            clear HP hk1
            by_cases he : l[j] = sP
            · have HF := Lib.hid (show abv sP wallN l.reverse = some j by rw [HE.out, if_pos he])
              have hf : (l[j] == [112]) = true := by simpa [sP] using he
              clear he
              have HQ := Lib.hid (show stI l nm = j by unfold stI; rw [cls_bk hb hli, HF.out]; rfl)
              go_wp2
              go_ret
              exact ⟨ret_int (by rw [HQ.out]), rfl⟩
            · have hf : (l[j] == [112]) = false := by simpa [sP] using he
              cases hp : wallN l[j]
              · have HI := Lib.hid (show abv sP wallN l.reverse = abv sP wallN (l.take j).reverse by rw [HE.out, if_neg he, hp]; rfl)
                obtain ⟨t1, t2, t3, t4⟩ := wall_f hp
                clear he hp
                go_wp2
                go_round
                case rel => exact ⟨(j : Int) - 1, by omega, by omega, rfl, rfl, Lib.hid (by rw [HI.out, show ((j : Int) - 1 + 1).toNat = j by omega])⟩
                case measure => simp [intOf] <;> omega
              · have HI := Lib.hid (show abv sP wallN l.reverse = none by rw [HE.out, if_neg he, hp]; rfl)
                rcases wall_t hp with t1 | ⟨t1, t2⟩ | ⟨t1, t2, t3⟩ | ⟨t1, t2, t3, t4⟩
                all_goals
                  clear he hp
                  have HQ := Lib.hid (show stI l nm = l.length by unfold stI; rw [cls_bk hb hli, HI.out]; simp)
                  go_wp2
                  go_ret
                  exact ⟨ret_int (by rw [HQ.out]), rfl⟩
          · have HF := Lib.hid (show abv sP wallN l.reverse = none by rw [HP.out, show (k + 1).toNat = 0 by omega]; rfl)
            clear HP
            have HQ := Lib.hid (show stI l nm = l.length by unfold stI; rw [cls_bk hb hli, HF.out]; simp)
            go_wp2
            go_ret
            exact ⟨ret_int (by rw [HQ.out]), rfl⟩
end Go.Proofs.YtjclpmpphkmpdaaGreatDoor

namespace Go.Proofs.YtjclpmpphkmpdaaGreatDoor
open Go.RowKit

theorem list_snoc {α : Type} {l : List α} {n : Nat} (h : l.length = n + 1) : ∃ l0 x, l = l0 ++ [x] := by
  rcases List.eq_nil_or_concat l with rfl | ⟨l0, x, rfl⟩
  · simp at h
  · exact ⟨l0, x, by simp⟩
/-- How many are open. -/
def lenO (b : Nat) (w : World) : Nat := match w.cell? ⟨b, 1, none⟩ with | some (.slice _ n _) => n | _ => 0
theorem BdS.lenO {w : World} {base b : Nat} {P : Nat → Prop} {s : St} (h : BdS w base b P s) : lenO b w = s.2.length := by
  obtain ⟨gn, cn, vo, lv, v, oe, h⟩ := h
  obtain ⟨_, c1, _, _⟩ := h.cells
  obtain ⟨ao, co, rfl, _⟩ := h.oc
  unfold Go.Proofs.YtjclpmpphkmpdaaGreatDoor.lenO
  rw [c1]
  simp only []
  rw [← opO_len s.2, ← h.oeq, List.length_map]
theorem lsX_le (r : List Nd) (f : List (Nm × List Atr × List Nd)) : (lsX r f).length ≤ cntS (r, f) := by
  have hc : ∀ l : List Nd, l.length ≤ cntL l := by
    intro l
    induction l with
    | nil => simp [cntL]
    | cons d l ih => cases d with
      | mk n a x k => simp only [List.length_cons, cntL, cntN]; omega
  cases f with
  | nil => have := hc r; simp only [lsX, cntS, cntF]; omega
  | cons c f => obtain ⟨n, a, k⟩ := c; have := hc k; simp only [lsX, cntS, cntF]; omega
theorem BdR.setb {w : World} {b : Nat} {a c : Value} {t : TypeId} (h : w.heap[b]? = some (.cells #[a, c] t (0, 0))) : w.cell? ⟨b, 0, none⟩ = some a ∧ w.cell? ⟨b, 1, none⟩ = some c ∧ w.frozen? ⟨b, 0, none⟩ = false ∧ w.frozen? ⟨b, 1, none⟩ = false := by
  simp [World.cell?, World.frozen?, h]
theorem sc_comm2 (w : World) (b o1 o2 : Nat) (x y : Value) (h : o1 ≠ o2) : (w.setCell ⟨b, o1, none⟩ x).setCell ⟨b, o2, none⟩ y = (w.setCell ⟨b, o2, none⟩ y).setCell ⟨b, o1, none⟩ x := by
  unfold World.setCell
  congr 1
  apply Array.ext
  · simp
  · intro i h1 h2
    simp only [Array.getElem_modify]
    by_cases e : b = i
    · simp only [e, if_true]
      generalize w.heap[i]'(by simpa using h1) = q
      cases q <;> simp [Array.setIfInBounds_comm _ _ h]
    · simp [e]
set_option maxRecDepth 100000 in
set_option maxHeartbeats 4000000 in
theorem close_c (base b : Nat) (P : Nat → Prop) (s : St) (m : Nat) (w : World) (hB : BdS w base b P s) (hbw : base ≤ w.heap.size) (hI : Iv s) (hc : cntS s ≤ 100000) :
    Calls Tryz.prog 36 #[.pointer (some ⟨b, 0, none⟩), .int .i64 m] w fun e w' => e = .returned (.tuple #[]) ∧ (∃ P', (∀ k, P k → P' k) ∧ BdS w' base b P' (pops (s.2.length - m) s)) ∧ Below base w w' ∧ Still P w w' := by
  have hsl := iv_len hI.1
  go_enter Tryz.func36, Tryz.ntmps36
  go_wp2
  go_loopw [4] (fun _ wr => ∃ (j : Nat) (P' : Nat → Prop), j ≤ s.2.length - m ∧ (∀ k, P k → P' k) ∧ BdS wr base b P' (pops j s) ∧ Below base w wr ∧ Still P w wr) (fun _ wr => lenO b wr)
  case atStart => exact ⟨0, P, Nat.zero_le _, fun _ h => h, hB, Below.refl _ _, Still.refl _ _⟩
  case round =>
    obtain ⟨j, P', hj, hPP, hB', hbl, hst⟩ := hrel
    have hbr := Nat.le_trans hbw (Below.size hbl)
    have hmeas := hB'.lenO
    have hI' := iv_pops j hI
    have hc' := Nat.le_trans (pops_cnt j s) hc
    have hsl' := pops_len j s
    obtain ⟨S, hS⟩ : ∃ S, S = pops j s := ⟨_, rfl⟩
    have HS := Lib.hid hS
    rw [← hS] at hB' hmeas hI' hc' hsl'
    clear hS
    obtain ⟨gn, cn, vo, lv, v, oe, h⟩ := hB'
    obtain ⟨c0, c1, f0, f1⟩ := h.cells
    have hblt := h.blt
    have hoe : oe.length = S.2.length := by rw [← opO_len S.2, ← h.oeq, List.length_map]
    obtain ⟨ao, co, rfl, hco, hoc⟩ := h.oc
    by_cases hlt : m < S.2.length
    · obtain ⟨r, f⟩ := S
      cases f with
      | nil => simp at hlt
      | cons c f =>
        obtain ⟨nm, at', k⟩ := c
        have h' : BdR wr base b P' (lsI r f ++ [lsX r f]) k (opO f ++ [(nm, at')]) gn cn (.slice ao oe.length co) lv v oe := h
        have hl1 : lv.length = f.length + 1 := by rw [h'.len]; simp [lsI_len]
        have hl2 : oe.length = f.length + 1 := by rw [hoe]; rfl
        obtain ⟨lv0, u, rfl⟩ := list_snoc hl1
        obtain ⟨oe0, p, rfl⟩ := list_snoc hl2
        have hl3 : lv0.length = f.length := by simpa using hl1
        have hl4 : oe0.length = f.length := by simpa using hl2
        have hp : p.1 = (nm, at') := by
          have := h'.oeq
          rw [List.map_append, List.map_singleton] at this
          have := (List.append_inj' this rfl).2
          simpa using this
        obtain ⟨go, rfl, hgo, o0, o1, o2, o3⟩ := hoc f.length (by omega)
        have hpe : (oe0 ++ [p])[f.length]'(by omega) = p := by simp [← hl4]
        rw [hpe] at o0 o1
        rw [hp] at o0
        obtain ⟨av, nv, cv, ev⟩ : ∃ a n c, p.2 = .slice a n c := by obtain ⟨a, c, e, -⟩ := h'.oat p (by simp); exact ⟨a, _, c, e⟩
        obtain ⟨n0, n1, n2⟩ := h'.last
        obtain ⟨e0, h0⟩ := h'.top
        obtain ⟨ax, cx, rfl, hcx⟩ := own_shp h0.row
        rw [hl1] at c0 n0 n1 n2
        rw [hl2] at c1 hco
        rw [ev] at o1
        have hde := h'
        rw [show (oe0 ++ [p]).length = oe0.length + 1 by simp, ← hp] at hde
        obtain ⟨d1, d2, d3⟩ := hde.drop
        obtain ⟨P2, hP2⟩ : ∃ P2 : Nat → Prop, P2 = fun q => P' q ∨ (Value.slice ax e0.length cx).ownBlock = some q := ⟨_, rfl⟩
        rw [← hP2, hp, ev] at d2
        rw [← hP2] at d3 d1
        rw [hl3, hl4] at d1 d2 d3
        have hB2 : BdS ((wr.setCell ⟨b, 1, none⟩ (.slice (some ⟨go, 0, none⟩) f.length co)).setCell ⟨b, 0, none⟩ (.slice (some ⟨gn, 0, none⟩) (f.length + 1) cn)) base b P2 (r, f) := ⟨_, _, _, _, _, _, d1⟩
        have hnn : nm ≠ [] := hI'.1.1
        have PC := Lib.hid (fun (W : World) (hb : Bl ((wr.setCell ⟨b, 1, none⟩ (.slice (some ⟨go, 0, none⟩) f.length co)).setCell ⟨b, 0, none⟩ (.slice (some ⟨gn, 0, none⟩) (f.length + 1) cn)) W) =>
          (show Calls Tryz.prog 45 #[.pointer (some ⟨b, 0, none⟩), .agg #[.string ⟨nm.toArray⟩, .slice av nv cv, .string ⟨#[]⟩, .slice ax e0.length cx]] W (fun e w' => e = .returned (.tuple #[]) ∧ BdS w' base b P2 (pop (r, (nm, at', k) :: f)) ∧ Below base W w' ∧ Still P2 W w') from
            put_cB base b P2 (r, f) (.mk nm at' [] k) _ _ W (hB2.of_bl hb) (d2.still (Still.of_bl hb)) (d3.of_bl hb) (Nat.le_trans hbr (by have := Below.size hb; simpa using this)) (by
              have h1 := lsX_le r f
              simp only [cntS, cntF] at h1 hc'
              show (lsX r f).length ≤ 1000000
              omega) (by have := hsl'; simp only [List.length_cons] at this; show f.length ≤ 1000000; omega) hnn))
        have hn2 : (f.length : Int) + 1 ≤ (co : Int) := by omega
        have hn3 : (f.length : Int) + 1 + 1 ≤ (cn : Int) := by omega
        have hmj : (m : Int) < (f.length : Int) + 1 := by simp only [List.length_cons] at hlt; omega
        have hfl : f.length ≤ 8 := by simp only [List.length_cons] at hsl'; omega
        have hjm : j + 1 ≤ s.2.length - m := by simp only [List.length_cons] at hsl' hlt; omega
        have hPP2 : ∀ q, P q → P2 q := fun q hq => by rw [hP2]; exact .inl (hPP q hq)
        have hnb : ¬ P b := fun hq => h'.nPb (hPP b hq)
        have HSP := Lib.hid (show pop (r, (nm, at', k) :: f) = pops (j + 1) s by rw [pops_add, ← HS.out]; rfl)
        have HM := Lib.hid hmeas
        have HBL := Lib.hid (And.intro hbl hst)
        have hgl := h'.gnlt
        have hbas := h'.bas
        have hbg := h'.bgn
        have hln : (lv0 ++ [u]).length = f.length + 1 := hl1
        clear hoc hpe hp hB2 d1 d2 d3 hP2 h h' hde h0 hB hI hI' hc hc' hl1 hl2 hl3 hl4 hoe hmeas hbl hst hPP hnn hlt hsl'
        go_wp2_with fail
        have hw1 : IntKind.i64.wrap ((f.length : Int) + 1) = (f.length : Int) + 1 := by go_arith
        have hs1 : (0 : Int) ≤ (f.length : Int) := by omega
        have hs2 : (f.length : Int) ≤ (co : Int) := by omega
        have hs3 : (f.length : Int) + 1 ≤ (cn : Int) := by omega
        have hs4 : (0 : Int) ≤ (f.length : Int) + 1 := by omega
        have hs5 : ((f.length : Int) + 1).toNat = f.length + 1 := by omega
        go_region
        have hbl2 : Bl ((wr.setCell ⟨b, 1, none⟩ (.slice (some ⟨go, 0, none⟩) f.length co)).setCell ⟨b, 0, none⟩ (.slice (some ⟨gn, 0, none⟩) (f.length + 1) cn)) ((((wr.setCell ⟨b, 1, none⟩ (.slice (some ⟨go, 0, none⟩) f.length co)).setCell ⟨b, 0, none⟩ (.slice (some ⟨gn, 0, none⟩) (f.length + 1) cn)).alloc (.cells #[.string ⟨nm.toArray⟩, .slice av nv cv, .string ⟨#[]⟩, .slice ax e0.length cx] 51)).drew) := Below.drew ((Bl.refl _).alloc _)
        have hbw2 : Below base wr ((((wr.setCell ⟨b, 1, none⟩ (.slice (some ⟨go, 0, none⟩) f.length co)).setCell ⟨b, 0, none⟩ (.slice (some ⟨gn, 0, none⟩) (f.length + 1) cn)).alloc (.cells #[.string ⟨nm.toArray⟩, .slice av nv cv, .string ⟨#[]⟩, .slice ax e0.length cx] 51)).drew) := Below.drew (Below.alloc (Below.setCell (Below.setCell (Below.refl _ _) hbas _) hbas _) (by simpa using hbr) _)
        have hst2 : Still P wr ((((wr.setCell ⟨b, 1, none⟩ (.slice (some ⟨go, 0, none⟩) f.length co)).setCell ⟨b, 0, none⟩ (.slice (some ⟨gn, 0, none⟩) (f.length + 1) cn)).alloc (.cells #[.string ⟨nm.toArray⟩, .slice av nv cv, .string ⟨#[]⟩, .slice ax e0.length cx] 51)).drew) := ((Still.set _ _ _ _ hnb).trans (Still.set _ _ _ _ hnb)).trans (Still.of_bl hbl2)
        have HZ2 := Lib.hid hst2
        clear hst2
        have HX2 := Lib.hid hbw2
        have HY2 := Lib.hid hbl2
        clear hbw2 hbl2
        go_wp2_with (go_at_call 45; (with_reducible refine (PC.out _ HY2.out).mono ?_); rintro e w2 ⟨rfl, hB2, hb2, hs2⟩)
        have hm2 := hB2.lenO
        go_roundw
        case rel => exact ⟨j + 1, P2, hjm, hPP2, by rw [← HSP.out]; exact hB2, Below.trans HBL.out.1 (Below.trans HX2.out hb2), HBL.out.2.trans (HZ2.out.trans (hs2.mono hPP2))⟩
        case measure =>
          rw [hm2, HM.out]
          show (put (r, f) _).2.length < _
          rw [put_len]
          simp
    · have HE := Lib.hid (show j = s.2.length - m by omega)
      have hlt' : ¬ ((m : Int) < (oe.length : Int)) := by omega
      clear hoc
      go_wp2
      go_end0
      exact ⟨rfl, ⟨P', hPP, by rw [← HE.out, ← HS.out]; exact ⟨gn, cn, _, lv, v, oe, h⟩⟩, hbl, hst⟩
end Go.Proofs.YtjclpmpphkmpdaaGreatDoor

/- Trees: the reference's IsEmpty and Closes (printed by gen_closes.py). -/
import Derived.Test.YtamdlihgecpbkaaGreatDoorGrpK
set_option maxRecDepth 100000
set_option maxHeartbeats 4000000
namespace Go.Proofs.YtamdlihgecpbkaaGreatDoor
open Go.RowKit
theorem isEmptyR_c (n : Nm) (w : World) : Calls Tryz.prog 65 #[.string ⟨n.toArray⟩] w fun e w' => e = .returned (.bool (emptyN n)) ∧ w = w' := by
 go_enter Tryz.func65, Tryz.ntmps65; go_wp2; all_goals (go_ret; exact ⟨ret_bool (by rw [Bool.eq_iff_iff]; simp [emptyN, sBr, sHr, sImg, *] <;> exact decide_eq_true_iff.symm), rfl⟩)
theorem abv_take (nm : Nm) (p : Nm → Bool) (l : List Nm) (j : Nat) (h : j < l.length) : abv nm p (l.take (j + 1)).reverse = if l[j] = nm then some j else if p l[j] then none else abv nm p (l.take j).reverse := by
 rw [take_snoc l j h, List.reverse_append]; simp only [List.reverse_singleton, List.singleton_append, abv, List.length_reverse, List.length_take, Nat.min_eq_left (Nat.le_of_lt h)]
theorem rev_drop (l : List Nm) (j : Nat) (h : j ≤ l.length) : l.reverse.drop (l.length - j) = (l.take j).reverse := (rev_take l j h).symm
theorem nb {n : Nm} {c : Nm} (h : ¬ n = c) : (n == c) = false := by simpa using h
theorem yb {n : Nm} {c : Nm} (h : n = c) : (n == c) = true := by simpa using h
theorem wall_f {n : Nm} (h : wallN n = false) : (n == [117, 108]) = false ∧ (n == [111, 108]) = false ∧ (n == [108, 105]) = false ∧ (n == [98, 108, 111, 99, 107, 113, 117, 111, 116, 101]) = false := by
 simp only [wallN, Bool.or_eq_false_iff, decide_eq_false_iff_not] at h; exact ⟨nb h.1.1.1, nb h.1.1.2, nb h.1.2, nb h.2⟩
theorem wall_t {n : Nm} (h : wallN n = true) : (n == [117, 108]) = true ∨ ((n == [117, 108]) = false ∧ (n == [111, 108]) = true) ∨ ((n == [117, 108]) = false ∧ (n == [111, 108]) = false ∧ (n == [108, 105]) = true) ∨
 ((n == [117, 108]) = false ∧ (n == [111, 108]) = false ∧ (n == [108, 105]) = false ∧ (n == [98, 108, 111, 99, 107, 113, 117, 111, 116, 101]) = true) := by
 simp only [wallN, Bool.or_eq_true, decide_eq_true_eq] at h; by_cases a : n = sUl
 · exact .inl (yb a)
 by_cases b : n = sOl
 · exact .inr (.inl ⟨nb a, yb b⟩)
 by_cases c : n = sLi
 · exact .inr (.inr (.inl ⟨nb a, nb b, yb c⟩))
 · exact .inr (.inr (.inr ⟨nb a, nb b, nb c, yb (by rcases h with ((h | h) | h) | h <;> first | exact absurd h a | exact absurd h b | exact absurd h c | exact h)⟩))
theorem ulol_f {n : Nm} (h : ulolN n = false) : (n == [117, 108]) = false ∧ (n == [111, 108]) = false := by
 simp only [ulolN, Bool.or_eq_false_iff, decide_eq_false_iff_not] at h; exact ⟨nb h.1, nb h.2⟩
theorem ulol_t {n : Nm} (h : ulolN n = true) : (n == [117, 108]) = true ∨ ((n == [117, 108]) = false ∧ (n == [111, 108]) = true) := by
 simp only [ulolN, Bool.or_eq_true, decide_eq_true_eq] at h; by_cases a : n = sUl
 · exact .inl (yb a)
 · exact .inr ⟨nb a, yb (by rcases h with h | h <;> first | exact absurd h a | exact h)⟩
theorem closes_c (l : List Nm) (v : Value) (nm : Nm) (hl : l.length ≤ 1099511627776) (w : World) (hA : StS w v l) :
 Calls Tryz.prog 101 #[v, .string ⟨nm.toArray⟩] w fun e w' => e = .returned (.int .i64 (stI l nm)) ∧ w = w' := by
 obtain ⟨ao, cap, rfl, hc, hA⟩ := hA; have HA := Lib.hid hA; clear hA; cases hb : blkN nm
 · have HR := Lib.hid (show stI l nm = l.length by unfold stI; rw [cls_pl hb]; simp); have hb2 : wallN nm = false ∧ ¬ nm = sP ∧ ¬ nm = sHr := by
    simp only [blkN, Bool.or_eq_false_iff, decide_eq_false_iff_not] at hb; exact ⟨hb.1.1, hb.1.2, hb.2⟩
   obtain ⟨t1, t2, t3, t4⟩ := wall_f hb2.1; have t5 : (nm == [112]) = false := nb hb2.2.1; have t6 : (nm == [104, 114]) = false := nb hb2.2.2; clear hb hb2; go_enter Tryz.func101, Tryz.ntmps101; go_wp2; go_ret; exact ⟨ret_int (by rw [HR.out]), rfl⟩
 · by_cases hli : nm = sLi
   · subst hli; unfold sLi; go_enter Tryz.func101, Tryz.ntmps101; go_wp2; go_loop [5, 6] (fun m i => ∃ k : Int, -1 ≤ k ∧ k < l.length ∧ m = .int .i64 l.length ∧ i = .int .i64 k ∧ Hid (abv sP wallN l.reverse = abv sP wallN (l.take (k + 1).toNat).reverse)) (fun _ i => (intOf i + 1).toNat); case atStart => exact ⟨(l.length : Int) - 1, by omega, by omega, rfl, rfl, Lib.hid (by rw [show ((l.length : Int) - 1 + 1).toNat = l.length by omega, List.take_length])⟩
     case round =>
      obtain ⟨k, hk1, hk2, rfl, rfl, HP⟩ := hrel; by_cases h0 : 0 ≤ k
      · obtain ⟨j, rfl⟩ : ∃ j : Nat, k = (j : Int) := ⟨k.toNat, by omega⟩; have hj : j < l.length := by omega
        obtain ⟨g, o, rfl, hg, h1⟩ := HA.out j hj; have HE := Lib.hid (show abv sP wallN l.reverse = _ from by rw [HP.out, show ((j : Int) + 1).toNat = j + 1 by omega, abv_take _ _ l j hj]); clear HP hk1; by_cases he : l[j] = sP
        · have HF := Lib.hid (show abv sP wallN l.reverse = some j by rw [HE.out, if_pos he]); have hf : (l[j] == [112]) = true := by simpa [sP] using he
          clear he; have HQ := Lib.hid (show stI l sLi = (abv sLi ulolN (l.take j).reverse).getD j by unfold stI; rw [cls_li, HF.out, Option.getD_some, List.length_reverse, rev_drop l j (by omega)]); go_wp2; go_loop [7] (fun i => ∃ k : Int, -1 ≤ k ∧ k < j ∧ i = .int .i64 k ∧ Hid (abv sLi ulolN (l.take j).reverse = abv sLi ulolN (l.take (k + 1).toNat).reverse)) (fun i => (intOf i + 1).toNat); case atStart => exact ⟨(j : Int) - 1, by omega, by omega, rfl, Lib.hid (by rw [show ((j : Int) - 1 + 1).toNat = j by omega])⟩
          case round =>
           obtain ⟨k2, hk1, hk2, rfl, HP2⟩ := hrel; by_cases h0 : 0 ≤ k2
           · obtain ⟨j2, rfl⟩ : ∃ j2 : Nat, k2 = (j2 : Int) := ⟨k2.toNat, by omega⟩; have hj2 : j2 < l.length := by omega
             obtain ⟨g2, o2, e2, hg2, h2⟩ := HA.out j2 hj2; cases e2; have HE2 := Lib.hid (show abv sLi ulolN (l.take j).reverse = _ from by rw [HP2.out, show ((j2 : Int) + 1).toNat = j2 + 1 by omega, abv_take _ _ l j2 hj2]); clear HP2 hk1; by_cases he2 : l[j2] = sLi
             · have HF2 := Lib.hid (show stI l sLi = j2 by rw [HQ.out, HE2.out, if_pos he2]; rfl); have hf2 : (l[j2] == [108, 105]) = true := by simpa [sLi] using he2
               clear he2; go_wp2; go_ret; exact ⟨ret_int (by have e := HF2.out; unfold sLi at e; rw [e]), rfl⟩
             · have hf2 : (l[j2] == [108, 105]) = false := by simpa [sLi] using he2
               cases hp2 : ulolN l[j2]
               · have HI2 := Lib.hid (show abv sLi ulolN (l.take j).reverse = abv sLi ulolN (l.take j2).reverse by rw [HE2.out, if_neg he2, hp2]; rfl); obtain ⟨u1, u2⟩ := ulol_f hp2; clear he2 hp2; go_wp2; go_round; case rel => exact ⟨(j2 : Int) - 1, by omega, by omega, rfl, Lib.hid (by rw [HI2.out, show ((j2 : Int) - 1 + 1).toNat = j2 by omega])⟩
                 case measure => simp [intOf] <;> omega
               · have HI2 := Lib.hid (show stI l sLi = j by rw [HQ.out, HE2.out, if_neg he2, hp2]; rfl); rcases ulol_t hp2 with u1 | ⟨u1, u2⟩; all_goals
                  clear he2 hp2; go_wp2; go_ret; exact ⟨ret_int (by have e := HI2.out; unfold sLi at e; rw [e]), rfl⟩
           · have HF2 := Lib.hid (show stI l sLi = j by rw [HQ.out, HP2.out, show (k2 + 1).toNat = 0 by omega]; rfl); clear HP2; go_wp2; go_ret; exact ⟨ret_int (by have e := HF2.out; unfold sLi at e; rw [e]), rfl⟩
        · have hf : (l[j] == [112]) = false := by simpa [sP] using he
          cases hp : wallN l[j]
          · have HI := Lib.hid (show abv sP wallN l.reverse = abv sP wallN (l.take j).reverse by rw [HE.out, if_neg he, hp]; rfl); obtain ⟨t1, t2, t3, t4⟩ := wall_f hp; clear he hp; go_wp2; go_round; case rel => exact ⟨(j : Int) - 1, by omega, by omega, rfl, rfl, Lib.hid (by rw [HI.out, show ((j : Int) - 1 + 1).toNat = j by omega])⟩
            case measure => simp [intOf] <;> omega
          · have HI := Lib.hid (show abv sP wallN l.reverse = none by rw [HE.out, if_neg he, hp]; rfl); rcases wall_t hp with t1 | ⟨t1, t2⟩ | ⟨t1, t2, t3⟩ | ⟨t1, t2, t3, t4⟩; all_goals
             clear he hp; have HQ := Lib.hid (show stI l sLi = (abv sLi ulolN (l.take l.length).reverse).getD l.length by unfold stI; rw [cls_li, HI.out, Option.getD_none, Nat.sub_self, List.drop_zero, List.length_reverse, List.take_length]); go_wp2; go_loop [7] (fun i => ∃ k : Int, -1 ≤ k ∧ k < l.length ∧ i = .int .i64 k ∧ Hid (abv sLi ulolN (l.take l.length).reverse = abv sLi ulolN (l.take (k + 1).toNat).reverse)) (fun i => (intOf i + 1).toNat); case atStart => exact ⟨(l.length : Int) - 1, by omega, by omega, rfl, Lib.hid (by rw [show ((l.length : Int) - 1 + 1).toNat = l.length by omega])⟩
             case round =>
              obtain ⟨k2, hk1, hk2, rfl, HP2⟩ := hrel; by_cases h0 : 0 ≤ k2
              · obtain ⟨j2, rfl⟩ : ∃ j2 : Nat, k2 = (j2 : Int) := ⟨k2.toNat, by omega⟩; have hj2 : j2 < l.length := by omega
                obtain ⟨g2, o2, e2, hg2, h2⟩ := HA.out j2 hj2; cases e2; have HE2 := Lib.hid (show abv sLi ulolN (l.take l.length).reverse = _ from by rw [HP2.out, show ((j2 : Int) + 1).toNat = j2 + 1 by omega, abv_take _ _ l j2 hj2]); clear HP2 hk1; by_cases he2 : l[j2] = sLi
                · have HF2 := Lib.hid (show stI l sLi = j2 by rw [HQ.out, HE2.out, if_pos he2]; rfl); have hf2 : (l[j2] == [108, 105]) = true := by simpa [sLi] using he2
                  clear he2; go_wp2; go_ret; exact ⟨ret_int (by have e := HF2.out; unfold sLi at e; rw [e]), rfl⟩
                · have hf2 : (l[j2] == [108, 105]) = false := by simpa [sLi] using he2
                  cases hp2 : ulolN l[j2]
                  · have HI2 := Lib.hid (show abv sLi ulolN (l.take l.length).reverse = abv sLi ulolN (l.take j2).reverse by rw [HE2.out, if_neg he2, hp2]; rfl); obtain ⟨u1, u2⟩ := ulol_f hp2; clear he2 hp2; go_wp2; go_round; case rel => exact ⟨(j2 : Int) - 1, by omega, by omega, rfl, Lib.hid (by rw [HI2.out, show ((j2 : Int) - 1 + 1).toNat = j2 by omega])⟩
                    case measure => simp [intOf] <;> omega
                  · have HI2 := Lib.hid (show stI l sLi = l.length by rw [HQ.out, HE2.out, if_neg he2, hp2]; rfl); rcases ulol_t hp2 with u1 | ⟨u1, u2⟩; all_goals
                     clear he2 hp2; go_wp2; go_ret; exact ⟨ret_int (by have e := HI2.out; unfold sLi at e; rw [e]), rfl⟩
              · have HF2 := Lib.hid (show stI l sLi = l.length by rw [HQ.out, HP2.out, show (k2 + 1).toNat = 0 by omega]; rfl); clear HP2; go_wp2; go_ret; exact ⟨ret_int (by have e := HF2.out; unfold sLi at e; rw [e]), rfl⟩
      · have HF := Lib.hid (show abv sP wallN l.reverse = none by rw [HP.out, show (k + 1).toNat = 0 by omega]; rfl); clear HP; have HQ := Lib.hid (show stI l sLi = (abv sLi ulolN (l.take l.length).reverse).getD l.length by unfold stI; rw [cls_li, HF.out, Option.getD_none, Nat.sub_self, List.drop_zero, List.length_reverse, List.take_length]); go_wp2; go_loop [7] (fun i => ∃ k : Int, -1 ≤ k ∧ k < l.length ∧ i = .int .i64 k ∧ Hid (abv sLi ulolN (l.take l.length).reverse = abv sLi ulolN (l.take (k + 1).toNat).reverse)) (fun i => (intOf i + 1).toNat); case atStart => exact ⟨(l.length : Int) - 1, by omega, by omega, rfl, Lib.hid (by rw [show ((l.length : Int) - 1 + 1).toNat = l.length by omega])⟩
        case round =>
         obtain ⟨k2, hk1, hk2, rfl, HP2⟩ := hrel; by_cases h0 : 0 ≤ k2
         · obtain ⟨j2, rfl⟩ : ∃ j2 : Nat, k2 = (j2 : Int) := ⟨k2.toNat, by omega⟩; have hj2 : j2 < l.length := by omega
           obtain ⟨g2, o2, e2, hg2, h2⟩ := HA.out j2 hj2; cases e2; have HE2 := Lib.hid (show abv sLi ulolN (l.take l.length).reverse = _ from by rw [HP2.out, show ((j2 : Int) + 1).toNat = j2 + 1 by omega, abv_take _ _ l j2 hj2]); clear HP2 hk1; by_cases he2 : l[j2] = sLi
           · have HF2 := Lib.hid (show stI l sLi = j2 by rw [HQ.out, HE2.out, if_pos he2]; rfl); have hf2 : (l[j2] == [108, 105]) = true := by simpa [sLi] using he2
             clear he2; go_wp2; go_ret; exact ⟨ret_int (by have e := HF2.out; unfold sLi at e; rw [e]), rfl⟩
           · have hf2 : (l[j2] == [108, 105]) = false := by simpa [sLi] using he2
             cases hp2 : ulolN l[j2]
             · have HI2 := Lib.hid (show abv sLi ulolN (l.take l.length).reverse = abv sLi ulolN (l.take j2).reverse by rw [HE2.out, if_neg he2, hp2]; rfl); obtain ⟨u1, u2⟩ := ulol_f hp2; clear he2 hp2; go_wp2; go_round; case rel => exact ⟨(j2 : Int) - 1, by omega, by omega, rfl, Lib.hid (by rw [HI2.out, show ((j2 : Int) - 1 + 1).toNat = j2 by omega])⟩
               case measure => simp [intOf] <;> omega
             · have HI2 := Lib.hid (show stI l sLi = l.length by rw [HQ.out, HE2.out, if_neg he2, hp2]; rfl); rcases ulol_t hp2 with u1 | ⟨u1, u2⟩; all_goals
                clear he2 hp2; go_wp2; go_ret; exact ⟨ret_int (by have e := HI2.out; unfold sLi at e; rw [e]), rfl⟩
         · have HF2 := Lib.hid (show stI l sLi = l.length by rw [HQ.out, HP2.out, show (k2 + 1).toNat = 0 by omega]; rfl); clear HP2; go_wp2; go_ret; exact ⟨ret_int (by have e := HF2.out; unfold sLi at e; rw [e]), rfl⟩
   · have hlf : (nm == [108, 105]) = false := nb hli; have hcc : (nm == [112]) = true ∨ ((nm == [112]) = false ∧ (nm == [104, 114]) = true) ∨ ((nm == [112]) = false ∧ (nm == [104, 114]) = false ∧ (nm == [117, 108]) = true) ∨ ((nm == [112]) = false ∧ (nm == [104, 114]) = false ∧ (nm == [117, 108]) = false ∧ (nm == [111, 108]) = true) ∨
      ((nm == [112]) = false ∧ (nm == [104, 114]) = false ∧ (nm == [117, 108]) = false ∧ (nm == [111, 108]) = false ∧ (nm == [98, 108, 111, 99, 107, 113, 117, 111, 116, 101]) = true) := by
      have hb2 := hb; simp only [blkN, Bool.or_eq_true, decide_eq_true_eq] at hb2; by_cases a : nm = sP
      · exact .inl (yb a)
      by_cases b : nm = sHr
      · exact .inr (.inl ⟨nb a, yb b⟩)
      have hw : wallN nm = true := by rcases hb2 with (h | h) | h <;> first | exact h | exact absurd h a | exact absurd h b
      rcases wall_t hw with t1 | ⟨t1, t2⟩ | ⟨t1, t2, t3⟩ | ⟨t1, t2, t3, t4⟩
      · exact .inr (.inr (.inl ⟨nb a, nb b, t1⟩))
      · exact .inr (.inr (.inr (.inl ⟨nb a, nb b, t1, t2⟩)))
      · rw [hlf] at t3; cases t3
      · exact .inr (.inr (.inr (.inr ⟨nb a, nb b, t1, t2, t4⟩)))
     rcases hcc with s1 | ⟨s1, s2⟩ | ⟨s1, s2, s3⟩ | ⟨s1, s2, s3, s4⟩ | ⟨s1, s2, s3, s4, s5⟩; all_goals
      go_enter Tryz.func101, Tryz.ntmps101; go_wp2; go_loop [5, 6] (fun m i => ∃ k : Int, -1 ≤ k ∧ k < l.length ∧ m = .int .i64 l.length ∧ i = .int .i64 k ∧ Hid (abv sP wallN l.reverse = abv sP wallN (l.take (k + 1).toNat).reverse)) (fun _ i => (intOf i + 1).toNat); case atStart => exact ⟨(l.length : Int) - 1, by omega, by omega, rfl, rfl, Lib.hid (by rw [show ((l.length : Int) - 1 + 1).toNat = l.length by omega, List.take_length])⟩
      case round =>
       obtain ⟨k, hk1, hk2, rfl, rfl, HP⟩ := hrel; by_cases h0 : 0 ≤ k
       · obtain ⟨j, rfl⟩ : ∃ j : Nat, k = (j : Int) := ⟨k.toNat, by omega⟩; have hj : j < l.length := by omega
         obtain ⟨g, o, rfl, hg, h1⟩ := HA.out j hj; have HE := Lib.hid (show abv sP wallN l.reverse = _ from by rw [HP.out, show ((j : Int) + 1).toNat = j + 1 by omega, abv_take _ _ l j hj]); clear HP hk1; by_cases he : l[j] = sP
         · have HF := Lib.hid (show abv sP wallN l.reverse = some j by rw [HE.out, if_pos he]); have hf : (l[j] == [112]) = true := by simpa [sP] using he
           clear he; have HQ := Lib.hid (show stI l nm = j by unfold stI; rw [cls_bk hb hli, HF.out]; rfl); go_wp2; go_ret; exact ⟨ret_int (by rw [HQ.out]), rfl⟩
         · have hf : (l[j] == [112]) = false := by simpa [sP] using he
           cases hp : wallN l[j]
           · have HI := Lib.hid (show abv sP wallN l.reverse = abv sP wallN (l.take j).reverse by rw [HE.out, if_neg he, hp]; rfl); obtain ⟨t1, t2, t3, t4⟩ := wall_f hp; clear he hp; go_wp2; go_round; case rel => exact ⟨(j : Int) - 1, by omega, by omega, rfl, rfl, Lib.hid (by rw [HI.out, show ((j : Int) - 1 + 1).toNat = j by omega])⟩
             case measure => simp [intOf] <;> omega
           · have HI := Lib.hid (show abv sP wallN l.reverse = none by rw [HE.out, if_neg he, hp]; rfl); rcases wall_t hp with t1 | ⟨t1, t2⟩ | ⟨t1, t2, t3⟩ | ⟨t1, t2, t3, t4⟩; all_goals
              clear he hp; have HQ := Lib.hid (show stI l nm = l.length by unfold stI; rw [cls_bk hb hli, HI.out]; simp); go_wp2; go_ret; exact ⟨ret_int (by rw [HQ.out]), rfl⟩
       · have HF := Lib.hid (show abv sP wallN l.reverse = none by rw [HP.out, show (k + 1).toNat = 0 by omega]; rfl); clear HP; have HQ := Lib.hid (show stI l nm = l.length by unfold stI; rw [cls_bk hb hli, HF.out]; simp); go_wp2; go_ret; exact ⟨ret_int (by rw [HQ.out]), rfl⟩
end Go.Proofs.YtamdlihgecpbkaaGreatDoor

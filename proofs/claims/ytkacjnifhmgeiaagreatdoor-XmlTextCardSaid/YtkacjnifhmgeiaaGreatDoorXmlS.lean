/- Documents: the law XmlText. -/
import Derived.Test.YtkacjnifhmgeiaaGreatDoorXmlR
namespace Go.Proofs.YtkacjnifhmgeiaaGreatDoor
open Go.RowKit

theorem PutL_ge (l : List UInt8) : l.length ≤ (PutL l).length := by
  induction l using snoc_ind with
  | h0 => simp
  | h1 l c ih =>
    have h1 := PutL_len_snoc l c
    have h2 : 1 ≤ (putc c).length := by
      unfold putc
      repeat' split
      all_goals simp
    simp only [List.length_append, List.length_singleton]
    omega
/-- The document around a text; what it is read as. -/
def tx1 (s : List UInt8) : Nd := .mk [114] [([97], s)] [] [.mk [] [] s []]
def tx2 (s : List UInt8) : Nd := .mk [114] [] [] [.mk [] [] s []]
theorem tx1_rd (s : List UInt8) (hs : s ≠ []) (h : 2 * (PutL s).length + 30 ≤ 3000) : rdX ([60, 114, 32, 97, 61, 34] ++ PutL s ++ [34, 62] ++ PutL s ++ [60, 47, 114, 62]) = .ok (tx1 s) := by
  unfold rdX
  rw [if_neg (by simp; omega), XmP_text s hs]
  rfl
theorem tx2_rd (s : List UInt8) (hs : s ≠ []) (h : 2 * (PutL s).length + 30 ≤ 3000) (hc : ∀ i, pre sCdE (s.drop i) = false) : rdX ([60, 114, 62] ++ sCd ++ s ++ sCdE ++ [60, 47, 114, 62]) = .ok (tx2 s) := by
  have := PutL_ge s
  unfold rdX
  rw [if_neg (by simp [sCd, sCdE]; omega), XmP_cdata s hs hc]
  rfl
theorem tx1_end {s : List UInt8} {w0 w' : World} {e : Ending} (h : AllEnd w0 (.ok (tx1 s)) e w') : ∃ g1 o1 c1 g2 o2 c2, e = .returned (.tuple #[.agg #[.string ⟨#[114]⟩, .slice (some ⟨g1, o1, none⟩) 1 c1, .string ⟨#[]⟩, .slice (some ⟨g2, o2, none⟩) 1 c2], .int .i64 0]) ∧ Bl w0 w' ∧ g1 < w'.heap.size ∧ g2 < w'.heap.size ∧ 1 ≤ c1 ∧ 1 ≤ c2 ∧
    w'.cell? ⟨g1, o1 + 1, none⟩ = some (.string ⟨s.toArray⟩) ∧ w'.cell? ⟨g2, o2 + 2, none⟩ = some (.string ⟨s.toArray⟩) := by
  obtain ⟨hb, va, vk, rfl, P, hA, hK, -⟩ := h
  obtain ⟨ao, c1, rfl, h1, hA⟩ := hA
  obtain ⟨ko, c2, rfl, h2, hK⟩ := hK.get
  obtain ⟨g1, o1, rfl, hg1, -, -, x2⟩ := hA 0 (by simp [tx1, Nd.a])
  obtain ⟨g2, o2, va2, vk2, rfl, hg2, -, -, -, k3, -⟩ := hK 0 (by simp [tx1, Nd.k])
  refine ⟨g1, o1, c1, g2, o2, c2, rfl, hb, hg1, hg2, h1, h2, ?_, ?_⟩
  · rw [Nat.zero_mul, Nat.add_zero] at x2; exact x2
  · rw [Nat.zero_mul, Nat.add_zero] at k3; exact k3
theorem tx2_end {s : List UInt8} {w0 w' : World} {e : Ending} (h : AllEnd w0 (.ok (tx2 s)) e w') : ∃ a1 c1 g2 o2 c2, e = .returned (.tuple #[.agg #[.string ⟨#[114]⟩, .slice a1 0 c1, .string ⟨#[]⟩, .slice (some ⟨g2, o2, none⟩) 1 c2], .int .i64 0]) ∧ Bl w0 w' ∧ g2 < w'.heap.size ∧ w0.heap.size ≤ g2 ∧ 1 ≤ c2 ∧
    w'.cell? ⟨g2, o2 + 2, none⟩ = some (.string ⟨s.toArray⟩) := by
  obtain ⟨hb, va, vk, rfl, P, hA, hK, hP⟩ := h
  obtain ⟨ao, c1, rfl, h1, hA⟩ := hA
  obtain ⟨ko, c2, rfl, h2, hK⟩ := hK.get
  obtain ⟨g2, o2, va2, vk2, rfl, hg2, hp2, -, -, k3, -⟩ := hK 0 (by simp [tx2, Nd.k])
  refine ⟨ao, c1, g2, o2, c2, rfl, hb, hg2, (hP _ hp2).1, h2, ?_⟩
  rw [Nat.zero_mul, Nat.add_zero] at k3; exact k3
theorem pre_take (p t : List UInt8) : pre p t = (t.take p.length == p) := by
  rw [Bool.eq_iff_iff, beq_iff_eq]
  unfold pre
  rw [List.isPrefixOf_iff_prefix, List.prefix_iff_eq_take]
  exact ⟨fun h => h.symm, fun h => h.symm⟩
set_option maxRecDepth 100000 in
set_option maxHeartbeats 8000000 in
theorem xmlText_c (s : List UInt8) (hs : s.length ≤ 281474976710656) (w : World) (hE : ES w) (hM : ML w) :
    Calls Tryz.prog 5 #[.string ⟨s.toArray⟩] w fun e w' => e = .returned (.bool true) ∧ Bl w w' := by
  have PC := Lib.hid (fun W => Put_c s W)
  by_cases c1 : 3000 < s.length
  · have h1 : tooL s = 2 := by unfold tooL; rw [if_pos c1]
    rw [h1] at PC
    clear h1
    go_enter Tryz.func5, Tryz.ntmps5
    go_wp2_with (first | (go_at_call 12; (with_reducible refine (xmlBegun_c _ hE hM).mono ?_); rintro e w1 ⟨rfl, hb1⟩) | (go_at_call 15; (with_reducible refine (begun_c _ (hE.of_bl hb1)).mono ?_); rintro e w2 ⟨rfl, hb2⟩) | (go_at_call 16; (with_reducible refine (PC.out _).mono ?_); rintro e w3 ⟨rfl, hb3⟩))
    go_ret
    exact ⟨rfl, (hb1.trans hb2).trans hb3⟩
  have h1 : tooL s = 0 := by unfold tooL; rw [if_neg c1]
  have h2 : short s (PutL s) = PutL s := by unfold short; rw [if_neg c1]
  rw [h1, h2] at PC
  clear h1 h2
  obtain ⟨T, hT⟩ : ∃ T, T = PutL s := ⟨_, rfl⟩
  have HT := Lib.hid hT
  rw [← hT] at PC
  have hlt := PutL_len s
  rw [← hT] at hlt
  by_cases c2 : 3000 < 2 * T.length + 30
  · have c2' : (3000 : Int) < 2 * (T.length : Int) + 30 := by omega
    clear hT
    go_enter Tryz.func5, Tryz.ntmps5
    go_wp2_with (first | (go_at_call 12; (with_reducible refine (xmlBegun_c _ hE hM).mono ?_); rintro e w1 ⟨rfl, hb1⟩) | (go_at_call 15; (with_reducible refine (begun_c _ (hE.of_bl hb1)).mono ?_); rintro e w2 ⟨rfl, hb2⟩) | (go_at_call 16; (with_reducible refine (PC.out _).mono ?_); rintro e w3 ⟨rfl, hb3⟩))
    go_ret
    exact ⟨rfl, (hb1.trans hb2).trans hb3⟩
  have c2' : ¬ (3000 : Int) < 2 * (T.length : Int) + 30 := by omega
  by_cases c3 : s = []
  · have hse : s.isEmpty = true := by simp [c3]
    clear hT c3
    go_enter Tryz.func5, Tryz.ntmps5
    go_wp2_with (first | (go_at_call 12; (with_reducible refine (xmlBegun_c _ hE hM).mono ?_); rintro e w1 ⟨rfl, hb1⟩) | (go_at_call 15; (with_reducible refine (begun_c _ (hE.of_bl hb1)).mono ?_); rintro e w2 ⟨rfl, hb2⟩) | (go_at_call 16; (with_reducible refine (PC.out _).mono ?_); rintro e w3 ⟨rfl, hb3⟩))
    go_ret
    exact ⟨rfl, (hb1.trans hb2).trans hb3⟩
  have hse : s.isEmpty = false := by cases s <;> simp_all
  have R1 := Lib.hid (fun W h hm => readX_c ([60, 114, 32, 97, 61, 34] ++ T ++ [34, 62] ++ T ++ [60, 47, 114, 62]) W (by simp; omega) h hm)
  rw [show rdX ([60, 114, 32, 97, 61, 34] ++ T ++ [34, 62] ++ T ++ [60, 47, 114, 62]) = .ok (tx1 s) by rw [hT]; exact tx1_rd s c3 (by rw [← hT]; omega)] at R1
  have R2 := Lib.hid (fun (hc : ∀ i, pre sCdE (s.drop i) = false) W h hm => (show Calls Tryz.prog 6 #[.string ⟨([60, 114, 62, 60, 33, 91, 67, 68, 65, 84, 65, 91] ++ s ++ [93, 93, 62, 60, 47, 114, 62]).toArray⟩] W (fun e w' => AllEnd W (.ok (tx2 s)) e w') from by
    have h9 := readX_c ([60, 114, 62] ++ sCd ++ s ++ sCdE ++ [60, 47, 114, 62]) W (by simp [sCd, sCdE]; omega) h hm
    rw [tx2_rd s c3 (by rw [← hT]; omega) hc] at h9
    have e9 : [60, 114, 62] ++ sCd ++ s ++ sCdE ++ [60, 47, 114, 62] = [60, 114, 62, 60, 33, 91, 67, 68, 65, 84, 65, 91] ++ s ++ [93, 93, 62, 60, 47, 114, 62] := by simp [sCd, sCdE]
    rw [e9] at h9
    exact h9))
  have RA : Hid (∀ W, ES W → ML W → Calls Tryz.prog 6 #[.string ⟨(60 :: 114 :: 32 :: 97 :: 61 :: 34 :: (T ++ 34 :: 62 :: (T ++ [60, 47, 114, 62]))).toArray⟩] W fun e w' => AllEnd W (.ok (tx1 s)) e w') := Lib.hid (fun W h hm => by
    have h9 := R1.out W h hm
    rw [show [60, 114, 32, 97, 61, 34] ++ T ++ [34, 62] ++ T ++ [60, 47, 114, 62] = 60 :: 114 :: 32 :: 97 :: 61 :: 34 :: (T ++ 34 :: 62 :: (T ++ [60, 47, 114, 62])) by simp] at h9
    exact h9)
  have RB : Hid ((∀ i, pre sCdE (s.drop i) = false) → ∀ W, ES W → ML W → Calls Tryz.prog 6 #[.string ⟨(60 :: 114 :: 62 :: 60 :: 33 :: 91 :: 67 :: 68 :: 65 :: 84 :: 65 :: 91 :: (s ++ [93, 93, 62, 60, 47, 114, 62])).toArray⟩] W fun e w' => AllEnd W (.ok (tx2 s)) e w') := Lib.hid (fun hc W h hm => R2.out hc W h hm)
  have hd2 : decide ((3000 : Int) < 2 * (T.length : Int) + 30) = false := by simp; omega
  clear hT c3 R1 R2
  go_enter Tryz.func5, Tryz.ntmps5
  go_wp2_with (first | (go_at_call 12; (with_reducible refine (xmlBegun_c _ hE hM).mono ?_); rintro e w1 ⟨rfl, hb1⟩) | (go_at_call 15; (with_reducible refine (begun_c _ (hE.of_bl hb1)).mono ?_); rintro e w2 ⟨rfl, hb2⟩) | (go_at_call 16; (with_reducible refine (PC.out _).mono ?_); rintro e w3 ⟨rfl, hb3⟩; have hb13 := (hb1.trans hb2).trans hb3) | (go_at_call 6; (with_reducible refine (RA.out _ (hE.of_bl hb13) (hM.of_bl hb13)).mono ?_); rintro e w4 h4; obtain ⟨g1, o1, cc1, g2, o2, cc2, rfl, hb4, hg1, hg2, hc1, hc2, x2, k3⟩ := tx1_end h4; have hb14 := hb13.trans hb4))
  have hN4 := nb_par w4 [114] [] (some ⟨g1, o1, none⟩) 1 cc1 (some ⟨g2, o2, none⟩) 1 cc2
  have hb15 := hb14.alloc (.cells #[.string ⟨[114].toArray⟩, .slice (some ⟨g1, o1, none⟩) 1 cc1, .string ⟨([] : List UInt8).toArray⟩, .slice (some ⟨g2, o2, none⟩) 1 cc2] 25)
  go_loop [6] (fun i => ∃ k : Nat, k ≤ s.length ∧ i = .int .i64 k ∧ Hid (∀ j, j < k → pre sCdE (s.drop j) = false)) (fun i => s.length - (intOf i).toNat)
  case atStart => exact ⟨0, Nat.zero_le _, rfl, Lib.hid (fun j h => by omega)⟩
  case round =>
    obtain ⟨k, hk, rfl, HP⟩ := hrel
    by_cases hlt : k + 2 < s.length
    · have hlt' : (k : Int) + 2 < (s.length : Int) := by omega
      have i1 : (0 : Int) ≤ (k : Int) + 3 ∧ (k : Int) + 3 ≤ (s.length : Int) := by omega
      have i2 : ((k : Int) + 3).toNat = k + 3 := by omega
      have i3 : k + 3 - k = 3 := by omega
      cases hp : pre sCdE (s.drop k) with
      | true =>
        have hx : (List.take 3 (List.drop k s) == [93, 93, 62]) = true := by rw [← hp, pre_take]; rfl
        clear hp
        go_wp2
        go_ret
        exact ⟨rfl, hb15⟩
      | false =>
        have hx : (List.take 3 (List.drop k s) == [93, 93, 62]) = false := by rw [← hp, pre_take]; rfl
        have HQ := Lib.hid hp
        clear hp
        go_wp2
        go_round
        case rel =>
          refine ⟨k + 1, by omega, by go_num, Lib.hid (fun j hj => ?_)⟩
          by_cases e : j = k
          · subst e; exact HQ.out
          · exact HP.out j (by omega)
        case measure => simp [intOf]; omega
    · have hlt' : ¬ (k : Int) + 2 < (s.length : Int) := by omega
      have HC := Lib.hid (show ∀ i, pre sCdE (s.drop i) = false from fun i => by
        by_cases hi : i < k
        · exact HP.out i hi
        · cases hp : pre sCdE (s.drop i) with
          | false => rfl
          | true =>
            have h9 := pre_len hp
            rw [List.length_drop] at h9
            simp only [sCdE, List.length_cons, List.length_nil] at h9
            omega)
      go_wp2_with (go_at_call 6; (with_reducible refine (RB.out HC.out _ (hE.of_bl hb15) (hM.of_bl hb15)).mono ?_); rintro e w5 h5; obtain ⟨a5, c5, g6, o6, c6, rfl, hb5, hg6, hge6, hc6, k6⟩ := tx2_end h5; obtain ⟨m0, m1, m2, m3, y0, y1, y2, y3⟩ := (hN4.of_bl hb5).cells; have hne6 : g6 ≠ w4.heap.size := (by rw [alloc_size] at hge6; omega); have hne7 := Ne.symm hne6)
      go_ret
      have hz4 := Below.size hb14
      exact ⟨rfl, Below.setCell (Below.setCell (Below.setCell (Below.setCell (hb15.trans hb5) hz4 _) hz4 _) hz4 _) hz4 _⟩
end Go.Proofs.YtkacjnifhmgeiaaGreatDoor

/- Entries: Check. -/
import Derived.Test.YthnpljkekhieiaaGreatDoorGrpP
namespace Go.Proofs.YthnpljkekhieiaaGreatDoor
open Go.RowKit

def enV (x : Ent) : Value := .agg #[.string ⟨(eI x).toArray⟩, .string ⟨(eT x).toArray⟩, .string ⟨(eL x).toArray⟩, .int .i64 (eA x), .string ⟨(eH x).toArray⟩]
/-- A block that holds an entry. -/
def B5 (W : World) (b : Nat) (x : Ent) : Prop := b < W.heap.size ∧ W.cell? ⟨b, 0, none⟩ = some (.string ⟨(eI x).toArray⟩) ∧ W.cell? ⟨b, 1, none⟩ = some (.string ⟨(eT x).toArray⟩) ∧ W.cell? ⟨b, 2, none⟩ = some (.string ⟨(eL x).toArray⟩) ∧
  W.cell? ⟨b, 3, none⟩ = some (.int .i64 (eA x)) ∧ W.cell? ⟨b, 4, none⟩ = some (.string ⟨(eH x).toArray⟩)
theorem B5.of_bl {W W' : World} {b : Nat} {x : Ent} (h : B5 W b x) (hb : Bl W W') : B5 W' b x :=
  ⟨Nat.lt_of_lt_of_le h.1 (Below.size hb), (hb.cells.1 b 0 h.1).trans h.2.1, (hb.cells.1 b 1 h.1).trans h.2.2.1, (hb.cells.1 b 2 h.1).trans h.2.2.2.1, (hb.cells.1 b 3 h.1).trans h.2.2.2.2.1, (hb.cells.1 b 4 h.1).trans h.2.2.2.2.2⟩
def enO (x : Ent) (t : TypeId) : Obj := .cells #[.string ⟨(eI x).toArray⟩, .string ⟨(eT x).toArray⟩, .string ⟨(eL x).toArray⟩, .int .i64 (eA x), .string ⟨(eH x).toArray⟩] t
theorem B5.new (w : World) (x : Ent) (t : TypeId) : B5 (w.alloc (enO x t)) w.heap.size x := ⟨by simp, by simp [enO], by simp [enO], by simp [enO], by simp [enO], by simp [enO]⟩
theorem flong_c (s : List UInt8) (w : World) : Calls Tryz.prog 51 #[.string ⟨s.toArray⟩] w fun e w' => e = .returned (.bool (decide (3000 < s.length))) ∧ w = w' := by
  have HD := Lib.hid (show decide (3000 < s.length) = decide ((3000 : Int) < (s.length : Int)) by rw [decide_eq_decide]; omega)
  go_enter Tryz.func51, Tryz.ntmps51
  go_wp2
  go_ret
  exact ⟨ret_bool (by rw [HD.out]), rfl⟩
/-- The length of an entry's texts is bounded behind these tests. -/
theorem chkE_no {x : Ent} (h1 : eI x = []) : chkE x = 1 := by unfold chkE; rw [if_pos h1]
theorem chkE_many {x : Ent} (h1 : eI x ≠ []) (h2 : 60 < (eI x).length ∨ 3000 < (eT x).length ∨ 3000 < (eL x).length ∨ 3000 < (eH x).length) : chkE x = 2 := by unfold chkE; rw [if_neg h1, if_pos h2]
theorem chkE_range {x : Ent} (h1 : eI x ≠ []) (h2 : ¬ (60 < (eI x).length ∨ 3000 < (eT x).length ∨ 3000 < (eL x).length ∨ 3000 < (eH x).length)) (h3 : eA x < 0 ∨ 4102444799 < eA x) : chkE x = 3 := by unfold chkE; rw [if_neg h1, if_neg h2, if_pos h3]
theorem chkE_state {x : Ent} (h1 : eI x ≠ []) (h2 : ¬ (60 < (eI x).length ∨ 3000 < (eT x).length ∨ 3000 < (eL x).length ∨ 3000 < (eH x).length)) (h3 : ¬ (eA x < 0 ∨ 4102444799 < eA x)) :
    chkE x = if (eL x ≠ [] ∧ isU (eL x) = false) ∨ stayU (eH x) = false then 4 else 0 := by unfold chkE; rw [if_neg h1, if_neg h2, if_neg h3]
set_option maxRecDepth 100000 in
set_option maxHeartbeats 4000000 in
theorem chkE_c (x : Ent) (w : World) (hE : ES w) (hM : ML w) :
    Calls Tryz.prog 31 #[enV x] w fun e w' => e = .returned (.int .i64 (chkE x)) ∧ Bl w w' := by
  have hB0 := B5.new w x 36
  have hb0 : Bl w (w.alloc (enO x 36)) := (Bl.refl _).alloc _
  have hE0 := hE.of_bl hb0
  have hM0 := hM.of_bl hb0
  have HL := Lib.hid (fun s W => flong_c s W)
  unfold enO at hB0 hb0 hE0 hM0
  unfold enV
  by_cases h1 : eI x = []
  · have HR := Lib.hid (chkE_no h1)
    rw [h1] at hB0 hb0 hE0 hM0 ⊢
    clear h1
    go_enter Tryz.func31, Tryz.ntmps31
    go_wp2
    go_ret
    exact ⟨ret_int (by rw [HR.out]), hb0⟩
  · have h1' : ((eI x).isEmpty) = false := by cases e : eI x <;> simp_all
    by_cases h2 : 60 < (eI x).length
    · have HR := Lib.hid (chkE_many h1 (.inl h2))
      have h2' : (60 : Int) < ((eI x).length : Int) := by omega
      clear h1 h2
      go_enter Tryz.func31, Tryz.ntmps31
      go_wp2
      go_ret
      exact ⟨ret_int (by rw [HR.out]), hb0⟩
    · have h2' : ¬ (60 : Int) < ((eI x).length : Int) := by omega
      have TC := Lib.hid (fun W => flong_c (eT x) W)
      have LC := Lib.hid (fun W => flong_c (eL x) W)
      have HC := Lib.hid (fun W => flong_c (eH x) W)
      by_cases h3 : 3000 < (eT x).length ∨ 3000 < (eL x).length ∨ 3000 < (eH x).length
      · have HR := Lib.hid (chkE_many h1 (.inr h3))
        cases k3 : decide (3000 < (eT x).length) with
        | true =>
          rw [k3] at TC
          clear h1 h2 h3 k3
          go_enter Tryz.func31, Tryz.ntmps31
          go_wp2_with (go_at_call 51; (with_reducible refine (TC.out _).mono ?_); rintro e w1 ⟨rfl, rfl⟩)
          go_ret
          exact ⟨ret_int (by rw [HR.out]), hb0⟩
        | false =>
          cases k4 : decide (3000 < (eL x).length) with
          | true =>
            rw [k3] at TC
            rw [k4] at LC
            clear h1 h2 h3 k3 k4
            go_enter Tryz.func31, Tryz.ntmps31
            go_wp2_with (first | (go_at_call 51; (with_reducible refine (TC.out _).mono ?_); rintro e w1 ⟨rfl, rfl⟩) | (go_at_call 51; (with_reducible refine (LC.out _).mono ?_); rintro e w1 ⟨rfl, rfl⟩))
            go_ret
            exact ⟨ret_int (by rw [HR.out]), hb0⟩
          | false =>
            have k5 : decide (3000 < (eH x).length) = true := by simp only [decide_eq_false_iff_not] at k3 k4; exact decide_eq_true (by omega)
            rw [k3] at TC
            rw [k4] at LC
            rw [k5] at HC
            clear h1 h2 h3 k3 k4 k5
            go_enter Tryz.func31, Tryz.ntmps31
            go_wp2_with (first | (go_at_call 51; (with_reducible refine (TC.out _).mono ?_); rintro e w1 ⟨rfl, rfl⟩) | (go_at_call 51; (with_reducible refine (LC.out _).mono ?_); rintro e w1 ⟨rfl, rfl⟩) | (go_at_call 51; (with_reducible refine (HC.out _).mono ?_); rintro e w1 ⟨rfl, rfl⟩))
            go_ret
            exact ⟨ret_int (by rw [HR.out]), hb0⟩
      · have h23 : ¬ (60 < (eI x).length ∨ 3000 < (eT x).length ∨ 3000 < (eL x).length ∨ 3000 < (eH x).length) := by omega
        rw [decide_eq_false (by omega)] at TC LC HC
        by_cases h4 : eA x < 0 ∨ 4102444799 < eA x
        · have HR := Lib.hid (chkE_range h1 h23 h4)
          clear h1 h2 h3 h23
          by_cases h5 : eA x < 0
          · clear h4
            go_enter Tryz.func31, Tryz.ntmps31
            go_wp2_with (first | (go_at_call 51; (with_reducible refine (TC.out _).mono ?_); rintro e w1 ⟨rfl, rfl⟩) | (go_at_call 51; (with_reducible refine (LC.out _).mono ?_); rintro e w1 ⟨rfl, rfl⟩) | (go_at_call 51; (with_reducible refine (HC.out _).mono ?_); rintro e w1 ⟨rfl, rfl⟩))
            go_ret
            exact ⟨ret_int (by rw [HR.out]), hb0⟩
          · have h6 : 4102444799 < eA x := by omega
            clear h4
            go_enter Tryz.func31, Tryz.ntmps31
            go_wp2_with (first | (go_at_call 51; (with_reducible refine (TC.out _).mono ?_); rintro e w1 ⟨rfl, rfl⟩) | (go_at_call 51; (with_reducible refine (LC.out _).mono ?_); rintro e w1 ⟨rfl, rfl⟩) | (go_at_call 51; (with_reducible refine (HC.out _).mono ?_); rintro e w1 ⟨rfl, rfl⟩))
            go_ret
            exact ⟨ret_int (by rw [HR.out]), hb0⟩
        · have HR := Lib.hid (chkE_state h1 h23 h4)
          have h5 : ¬ eA x < 0 := by omega
          have h6 : ¬ 4102444799 < eA x := by omega
          have IC := Lib.hid (fun W => is_c (eL x) (by omega) W)
          have SC := Lib.hid (fun W (h : ES W) (h' : ML W) => stays'_c (eH x) W h h')
          clear h1 h2 h3 h23 h4
          by_cases h7 : eL x = []
          · have HR2 := Lib.hid (show chkE x = if stayU (eH x) = false then 4 else 0 by rw [HR.out]; simp [h7])
            rw [h7] at hB0 hb0 hE0 hM0 LC ⊢
            clear h7
            cases k : stayU (eH x) <;>
            · rw [k] at SC HR2
              clear k
              go_enter Tryz.func31, Tryz.ntmps31
              go_wp2_with (first | (go_at_call 51; (with_reducible refine (TC.out _).mono ?_); rintro e w1 ⟨rfl, rfl⟩) | (go_at_call 51; (with_reducible refine (LC.out _).mono ?_); rintro e w1 ⟨rfl, rfl⟩) | (go_at_call 51; (with_reducible refine (HC.out _).mono ?_); rintro e w1 ⟨rfl, rfl⟩) | (go_at_call 53; (with_reducible refine (SC.out _ hE0 hM0).mono ?_); rintro e w2 ⟨rfl, hb2⟩))
              go_ret
              exact ⟨ret_int (by rw [HR2.out]; rfl), hb0.trans hb2⟩
          · have h7' : ((eL x).isEmpty) = false := by cases e : eL x <;> simp_all
            have HNE := Lib.hid h7
            clear h7
            cases k8 : isU (eL x) with
            | false =>
              have HR2 := Lib.hid (show chkE x = 4 by rw [HR.out, if_pos (.inl ⟨HNE.out, k8⟩)])
              rw [k8] at IC
              clear k8
              go_enter Tryz.func31, Tryz.ntmps31
              go_wp2_with (first | (go_at_call 51; (with_reducible refine (TC.out _).mono ?_); rintro e w1 ⟨rfl, rfl⟩) | (go_at_call 51; (with_reducible refine (LC.out _).mono ?_); rintro e w1 ⟨rfl, rfl⟩) | (go_at_call 51; (with_reducible refine (HC.out _).mono ?_); rintro e w1 ⟨rfl, rfl⟩) | (go_at_call 52; (with_reducible refine (IC.out _).mono ?_); rintro e w2 ⟨rfl, hb2⟩))
              go_ret
              exact ⟨ret_int (by rw [HR2.out]), hb0.trans hb2⟩
            | true =>
              have HR2 := Lib.hid (show chkE x = if stayU (eH x) = false then 4 else 0 by rw [HR.out, k8]; simp)
              rw [k8] at IC
              clear k8
              cases k : stayU (eH x) <;>
              · rw [k] at SC HR2
                clear k
                go_enter Tryz.func31, Tryz.ntmps31
                go_wp2_with (first | (go_at_call 51; (with_reducible refine (TC.out _).mono ?_); rintro e w1 ⟨rfl, rfl⟩) | (go_at_call 51; (with_reducible refine (LC.out _).mono ?_); rintro e w1 ⟨rfl, rfl⟩) | (go_at_call 51; (with_reducible refine (HC.out _).mono ?_); rintro e w1 ⟨rfl, rfl⟩) | (go_at_call 52; (with_reducible refine (IC.out _).mono ?_); rintro e w2 ⟨rfl, hb2⟩; obtain ⟨l2, c0, c1, c2, c3, c4⟩ := hB0.of_bl hb2; have hE2 := hE0.of_bl hb2; have hM2 := hM0.of_bl hb2) | (go_at_call 53; (with_reducible refine (SC.out _ hE2 hM2).mono ?_); rintro e w3 ⟨rfl, hb3⟩))
                go_ret
                exact ⟨ret_int (by rw [HR2.out]; rfl), (hb0.trans hb2).trans hb3⟩
end Go.Proofs.YthnpljkekhieiaaGreatDoor

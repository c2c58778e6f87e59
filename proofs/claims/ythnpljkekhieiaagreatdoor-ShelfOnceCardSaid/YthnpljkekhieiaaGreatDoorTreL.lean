/- Trees: a token comes: a text; one that closes. -/
import Derived.Test.YthnpljkekhieiaaGreatDoorGrpM
import Derived.Test.YthnpljkekhieiaaGreatDoorGrpG
namespace Go.Proofs.YthnpljkekhieiaaGreatDoor
open Go.RowKit

/-- What a builder holds may go on. -/
structure OkS (s : St) (more : Nat) : Prop where
  iv : Iv s
  cnt : cntS s ≤ 90000
  txt : (ntxS s).length + more ≤ 1099511627776
set_option maxRecDepth 100000 in
set_option maxHeartbeats 2000000 in
theorem token_c1 (base b : Nat) (P : Nat → Prop) (s : St) (x : List UInt8) (va : Value) (w : World) (hB : BdS w base b P s) (hbw : base ≤ w.heap.size) (hO : OkS s x.length) (hva : ∃ a n c, va = .slice a n c) :
    Calls Tryz.prog 88 #[.pointer (some ⟨b, 0, none⟩), .agg #[.int .i64 1, .string ⟨#[]⟩, va, .string ⟨x.toArray⟩]] w fun e w' => e = .returned (.tuple #[]) ∧ (∃ P', BdS w' base b P' (stp s (1, [], [], x))) ∧ Below base w w' := by
  obtain ⟨a, n, c, rfl⟩ := hva
  have PC := Lib.hid (fun (W : World) (hb : Bl w W) => put_tx base b P s x W (hB.of_bl hb) (Nat.le_trans hbw (Below.size hb)) hO.iv (by have := hO.cnt; omega) hO.txt)
  clear hB hO
  go_enter Tryz.func88, Tryz.ntmps88
  go_wp2_with (go_at_call 121; (with_reducible refine (PC.out _ ((Bl.refl _).alloc _)).mono ?_); rintro e w2 ⟨rfl, hB2, hb2, -⟩)
  go_end0
  exact ⟨rfl, ⟨P, hB2⟩, Below.trans (Below.alloc (Below.refl _ _) hbw _) hb2⟩
theorem abI_rev (nm : Nm) (p : Nm → Bool) (l : List Nm) : abI nm p l.reverse = match abv nm p l with | some i => (i : Int) | none => -1 := by unfold abI; rw [List.reverse_reverse]; cases abv nm p l <;> rfl
theorem BdS.blt {w : World} {base b : Nat} {P : Nat → Prop} {s : St} (h : BdS w base b P s) : b < w.heap.size := by
  obtain ⟨_, _, _, _, _, _, h⟩ := h; exact h.blt
set_option maxRecDepth 100000 in
set_option maxHeartbeats 2000000 in
theorem token_c3 (base b : Nat) (P : Nat → Prop) (s : St) (nm : Nm) (va : Value) (w : World) (hB : BdS w base b P s) (hbw : base ≤ w.heap.size) (hO : OkS s 0) (hva : ∃ a n c, va = .slice a n c) :
    Calls Tryz.prog 88 #[.pointer (some ⟨b, 0, none⟩), .agg #[.int .i64 3, .string ⟨nm.toArray⟩, va, .string ⟨#[]⟩]] w fun e w' => e = .returned (.tuple #[]) ∧ (∃ P', BdS w' base b P' (stp s (3, nm, [], []))) ∧ Below base w w' := by
  obtain ⟨a, n, c, rfl⟩ := hva
  have h8 := iv_len hO.iv.1
  have hnl : (nms s).reverse.length ≤ 1099511627776 := by rw [List.length_reverse, nms_len]; omega
  have NC := Lib.hid (fun (W : World) (hb : Bl w W) => names_c base b P s W (hB.of_bl hb) (by omega))
  have AC := fun (v : Value) (W : World) (h : StS W v (nms s).reverse) => above_c _ _ do_never (nms s).reverse v nm hnl W h
  rw [abI_rev] at AC
  have CC := Lib.hid (fun (i : Nat) (W : World) (hb : Bl w W) => close_c base b P s i W (hB.of_bl hb) (Nat.le_trans hbw (Below.size hb)) hO.iv (by have := hO.cnt; omega))
  have HB := Lib.hid hB
  cases hab : abv nm (fun _ => false) (nms s) with
  | none =>
    have HS := Lib.hid (show stp s (3, nm, [], []) = s by unfold stp; rw [if_neg (show ¬ (3 : Int) = 1 by decide), if_neg (show ¬ (3 : Int) = 2 by decide), if_pos rfl, hab])
    rw [hab] at AC
    have AC := Lib.hid AC
    clear hab hB hO h8 hnl
    go_enter Tryz.func88, Tryz.ntmps88
    go_wp2_with fail
    go_region_with (first | (go_at_call 123; (with_reducible refine (NC.out _ (by repeat (first | exact Bl.refl _ | refine Bl.drew ?_ | refine Bl.alloc ?_ _))).mono ?_); rintro e w1 ⟨v, rfl, hS1, hb1⟩; have z1 : w1.cell? ⟨w.heap.size, 1, none⟩ = some (.string ⟨nm.toArray⟩) := (hb1.cells.1 w.heap.size 1 (by simp)).trans (by simp); have hw1 : Bl w w1 := Bl.trans (by repeat (first | exact Bl.refl _ | refine Bl.drew ?_ | refine Bl.alloc ?_ _)) hb1; clear hb1) | (go_at_call 124; (with_reducible refine (AC.out _ _ (by first | exact hS1 | exact hS1.of_bl (Below.drew (Bl.refl _)))).mono ?_); rintro e w7 ⟨rfl, rfl⟩))
    all_goals
      go_wp2
      go_end0
      exact ⟨rfl, ⟨P, by rw [HS.out]; exact HB.out.of_bl (by first | exact hw1 | exact Below.drew hw1)⟩, Below.mono (by first | exact hw1 | exact Below.drew hw1) hbw⟩
  | some i =>
    have HS := Lib.hid (show stp s (3, nm, [], []) = pops (s.2.length - i) s by unfold stp; rw [if_neg (show ¬ (3 : Int) = 1 by decide), if_neg (show ¬ (3 : Int) = 2 by decide), if_pos rfl, hab])
    rw [hab] at AC
    have AC := Lib.hid AC
    clear hab hB hO h8 hnl
    go_enter Tryz.func88, Tryz.ntmps88
    go_wp2_with fail
    go_region_with (first | (go_at_call 123; (with_reducible refine (NC.out _ (by repeat (first | exact Bl.refl _ | refine Bl.drew ?_ | refine Bl.alloc ?_ _))).mono ?_); rintro e w1 ⟨v, rfl, hS1, hb1⟩; have z1 : w1.cell? ⟨w.heap.size, 1, none⟩ = some (.string ⟨nm.toArray⟩) := (hb1.cells.1 w.heap.size 1 (by simp)).trans (by simp); have hw1 : Bl w w1 := Bl.trans (by repeat (first | exact Bl.refl _ | refine Bl.drew ?_ | refine Bl.alloc ?_ _)) hb1; clear hb1) | (go_at_call 124; (with_reducible refine (AC.out _ _ (by first | exact hS1 | exact hS1.of_bl (Below.drew (Bl.refl _)))).mono ?_); rintro e w7 ⟨rfl, rfl⟩))
    all_goals
      go_wp2_with (go_at_call 89; (with_reducible refine (CC.out i _ (by first | exact hw1 | exact Below.drew hw1)).mono ?_); rintro e w2 ⟨rfl, ⟨P2, -, hB2⟩, hb2, -⟩)
      go_end0
      exact ⟨rfl, ⟨P2, by rw [HS.out]; exact hB2⟩, Below.trans (Below.mono (show Bl w _ by first | exact hw1 | exact Below.drew hw1) hbw) hb2⟩
end Go.Proofs.YthnpljkekhieiaaGreatDoor

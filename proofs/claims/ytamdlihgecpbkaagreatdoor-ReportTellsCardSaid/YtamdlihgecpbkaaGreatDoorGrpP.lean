/- Entries: Check. · Shelves: what a right shelf is; the laws in plain words. · Shelves: Order; ids that were read; entries in memory. · Shelves: Check. -/
import Derived.Test.YtamdlihgecpbkaaGreatDoorGrpO
import Derived.Test.YtamdlihgecpbkaaGreatDoorGrpJ
import Derived.Laws.Cover1
import Derived.Maps.OwnOps
import Derived.Maps.Views
import Derived.Shelf.SlSortCmp.QuietGrown
set_option maxRecDepth 100000
set_option maxHeartbeats 4000000
namespace Go.Proofs.YtamdlihgecpbkaaGreatDoor
open Go.RowKit
def enV (x : Ent) : Value := .agg #[.string ⟨(eI x).toArray⟩, .string ⟨(eT x).toArray⟩, .string ⟨(eL x).toArray⟩, .int .i64 (eA x), .string ⟨(eH x).toArray⟩]
def B5 (W : World) (b : Nat) (x : Ent) : Prop := b < W.heap.size ∧ W.cell? ⟨b, 0, none⟩ = some (.string ⟨(eI x).toArray⟩) ∧ W.cell? ⟨b, 1, none⟩ = some (.string ⟨(eT x).toArray⟩) ∧ W.cell? ⟨b, 2, none⟩ = some (.string ⟨(eL x).toArray⟩) ∧
 W.cell? ⟨b, 3, none⟩ = some (.int .i64 (eA x)) ∧ W.cell? ⟨b, 4, none⟩ = some (.string ⟨(eH x).toArray⟩)
theorem B5.of_bl {W W' : World} {b : Nat} {x : Ent} (h : B5 W b x) (hb : Bl W W') : B5 W' b x :=
 ⟨Nat.lt_of_lt_of_le h.1 (Below.size hb), (hb.cells.1 b 0 h.1).trans h.2.1, (hb.cells.1 b 1 h.1).trans h.2.2.1, (hb.cells.1 b 2 h.1).trans h.2.2.2.1, (hb.cells.1 b 3 h.1).trans h.2.2.2.2.1, (hb.cells.1 b 4 h.1).trans h.2.2.2.2.2⟩
def enO (x : Ent) (t : TypeId) : Obj := .cells #[.string ⟨(eI x).toArray⟩, .string ⟨(eT x).toArray⟩, .string ⟨(eL x).toArray⟩, .int .i64 (eA x), .string ⟨(eH x).toArray⟩] t
theorem B5.new (w : World) (x : Ent) (t : TypeId) : B5 (w.alloc (enO x t)) w.heap.size x := ⟨by simp, by simp [enO], by simp [enO], by simp [enO], by simp [enO], by simp [enO]⟩
theorem flong_c (s : List UInt8) (w : World) : Calls Tryz.prog 54 #[.string ⟨s.toArray⟩] w fun e w' => e = .returned (.bool (decide (3000 < s.length))) ∧ w = w' := by
 have HD := Lib.hid (show decide (3000 < s.length) = decide ((3000 : Int) < (s.length : Int)) by rw [decide_eq_decide]; omega); go_enter Tryz.func54, Tryz.ntmps54; go_wp2; go_ret; exact ⟨ret_bool (by rw [HD.out]), rfl⟩
theorem chkE_no {x : Ent} (h1 : eI x = []) : chkE x = 1 := by unfold chkE; rw [if_pos h1]
theorem chkE_many {x : Ent} (h1 : eI x ≠ []) (h2 : 60 < (eI x).length ∨ 3000 < (eT x).length ∨ 3000 < (eL x).length ∨ 3000 < (eH x).length) : chkE x = 2 := by unfold chkE; rw [if_neg h1, if_pos h2]
theorem chkE_range {x : Ent} (h1 : eI x ≠ []) (h2 : ¬ (60 < (eI x).length ∨ 3000 < (eT x).length ∨ 3000 < (eL x).length ∨ 3000 < (eH x).length)) (h3 : eA x < 0 ∨ 4102444799 < eA x) : chkE x = 3 := by unfold chkE; rw [if_neg h1, if_neg h2, if_pos h3]
theorem chkE_state {x : Ent} (h1 : eI x ≠ []) (h2 : ¬ (60 < (eI x).length ∨ 3000 < (eT x).length ∨ 3000 < (eL x).length ∨ 3000 < (eH x).length)) (h3 : ¬ (eA x < 0 ∨ 4102444799 < eA x)) :
 chkE x = if (eL x ≠ [] ∧ isU (eL x) = false) ∨ stayU (eH x) = false then 4 else 0 := by unfold chkE; rw [if_neg h1, if_neg h2, if_neg h3]
theorem chkE_c (x : Ent) (w : World) (hE : ES w) (hM : ML w) :
 Calls Tryz.prog 23 #[enV x] w fun e w' => e = .returned (.int .i64 (chkE x)) ∧ Bl w w' := by
 have hB0 := B5.new w x 23; have hb0 : Bl w (w.alloc (enO x 23)) := (Bl.refl _).alloc _; have hE0 := hE.of_bl hb0; have hM0 := hM.of_bl hb0; have HL := Lib.hid (fun s W => flong_c s W); unfold enO at hB0 hb0 hE0 hM0; unfold enV; by_cases h1 : eI x = []
 · have HR := Lib.hid (chkE_no h1); rw [h1] at hB0 hb0 hE0 hM0 ⊢; clear h1; go_enter Tryz.func23, Tryz.ntmps23; go_wp2; go_ret; exact ⟨ret_int (by rw [HR.out]), hb0⟩
 · have h1' : ((eI x).isEmpty) = false := by cases e : eI x <;> simp_all
   by_cases h2 : 60 < (eI x).length
   · have HR := Lib.hid (chkE_many h1 (.inl h2)); have h2' : (60 : Int) < ((eI x).length : Int) := by omega
     clear h1 h2; go_enter Tryz.func23, Tryz.ntmps23; go_wp2; go_ret; exact ⟨ret_int (by rw [HR.out]), hb0⟩
   · have h2' : ¬ (60 : Int) < ((eI x).length : Int) := by omega
     have TC := Lib.hid (fun W => flong_c (eT x) W); have LC := Lib.hid (fun W => flong_c (eL x) W); have HC := Lib.hid (fun W => flong_c (eH x) W); by_cases h3 : 3000 < (eT x).length ∨ 3000 < (eL x).length ∨ 3000 < (eH x).length
     · have HR := Lib.hid (chkE_many h1 (.inr h3)); cases k3 : decide (3000 < (eT x).length) with
       | true =>
         rw [k3] at TC; clear h1 h2 h3 k3; go_enter Tryz.func23, Tryz.ntmps23; go_wp2_with (go_at_call 54; (with_reducible refine (TC.out _).mono ?_); rintro e w1 ⟨rfl, rfl⟩); go_ret; exact ⟨ret_int (by rw [HR.out]), hb0⟩
       | false =>
         cases k4 : decide (3000 < (eL x).length) with
         | true =>
           rw [k3] at TC; rw [k4] at LC; clear h1 h2 h3 k3 k4; go_enter Tryz.func23, Tryz.ntmps23; go_wp2_with (first | (go_at_call 54; (with_reducible refine (TC.out _).mono ?_); rintro e w1 ⟨rfl, rfl⟩) | (go_at_call 54; (with_reducible refine (LC.out _).mono ?_); rintro e w1 ⟨rfl, rfl⟩)); go_ret; exact ⟨ret_int (by rw [HR.out]), hb0⟩
         | false =>
           have k5 : decide (3000 < (eH x).length) = true := by simp only [decide_eq_false_iff_not] at k3 k4; exact decide_eq_true (by omega)
           rw [k3] at TC; rw [k4] at LC; rw [k5] at HC; clear h1 h2 h3 k3 k4 k5; go_enter Tryz.func23, Tryz.ntmps23; go_wp2_with (first | (go_at_call 54; (with_reducible refine (TC.out _).mono ?_); rintro e w1 ⟨rfl, rfl⟩) | (go_at_call 54; (with_reducible refine (LC.out _).mono ?_); rintro e w1 ⟨rfl, rfl⟩) | (go_at_call 54; (with_reducible refine (HC.out _).mono ?_); rintro e w1 ⟨rfl, rfl⟩)); go_ret; exact ⟨ret_int (by rw [HR.out]), hb0⟩
     · have h23 : ¬ (60 < (eI x).length ∨ 3000 < (eT x).length ∨ 3000 < (eL x).length ∨ 3000 < (eH x).length) := by omega
       rw [decide_eq_false (by omega)] at TC LC HC; by_cases h4 : eA x < 0 ∨ 4102444799 < eA x
       · have HR := Lib.hid (chkE_range h1 h23 h4); clear h1 h2 h3 h23; by_cases h5 : eA x < 0
         · clear h4; go_enter Tryz.func23, Tryz.ntmps23; go_wp2_with (first | (go_at_call 54; (with_reducible refine (TC.out _).mono ?_); rintro e w1 ⟨rfl, rfl⟩) | (go_at_call 54; (with_reducible refine (LC.out _).mono ?_); rintro e w1 ⟨rfl, rfl⟩) | (go_at_call 54; (with_reducible refine (HC.out _).mono ?_); rintro e w1 ⟨rfl, rfl⟩)); go_ret; exact ⟨ret_int (by rw [HR.out]), hb0⟩
         · have h6 : 4102444799 < eA x := by omega
           clear h4; go_enter Tryz.func23, Tryz.ntmps23; go_wp2_with (first | (go_at_call 54; (with_reducible refine (TC.out _).mono ?_); rintro e w1 ⟨rfl, rfl⟩) | (go_at_call 54; (with_reducible refine (LC.out _).mono ?_); rintro e w1 ⟨rfl, rfl⟩) | (go_at_call 54; (with_reducible refine (HC.out _).mono ?_); rintro e w1 ⟨rfl, rfl⟩)); go_ret; exact ⟨ret_int (by rw [HR.out]), hb0⟩
       · have HR := Lib.hid (chkE_state h1 h23 h4); have h5 : ¬ eA x < 0 := by omega
         have h6 : ¬ 4102444799 < eA x := by omega
         have IC := Lib.hid (fun W => is_c (eL x) (by omega) W); have SC := Lib.hid (fun W (h : ES W) (h' : ML W) => stays'_c (eH x) W h h'); clear h1 h2 h3 h23 h4; by_cases h7 : eL x = []
         · have HR2 := Lib.hid (show chkE x = if stayU (eH x) = false then 4 else 0 by rw [HR.out]; simp [h7]); rw [h7] at hB0 hb0 hE0 hM0 LC ⊢; clear h7; cases k : stayU (eH x) <;>
           · rw [k] at SC HR2; clear k; go_enter Tryz.func23, Tryz.ntmps23; go_wp2_with (first | (go_at_call 54; (with_reducible refine (TC.out _).mono ?_); rintro e w1 ⟨rfl, rfl⟩) | (go_at_call 54; (with_reducible refine (LC.out _).mono ?_); rintro e w1 ⟨rfl, rfl⟩) | (go_at_call 54; (with_reducible refine (HC.out _).mono ?_); rintro e w1 ⟨rfl, rfl⟩) | (go_at_call 56; (with_reducible refine (SC.out _ hE0 hM0).mono ?_); rintro e w2 ⟨rfl, hb2⟩)); go_ret; exact ⟨ret_int (by rw [HR2.out]; rfl), hb0.trans hb2⟩
         · have h7' : ((eL x).isEmpty) = false := by cases e : eL x <;> simp_all
           have HNE := Lib.hid h7; clear h7; cases k8 : isU (eL x) with
           | false =>
             have HR2 := Lib.hid (show chkE x = 4 by rw [HR.out, if_pos (.inl ⟨HNE.out, k8⟩)]); rw [k8] at IC; clear k8; go_enter Tryz.func23, Tryz.ntmps23; go_wp2_with (first | (go_at_call 54; (with_reducible refine (TC.out _).mono ?_); rintro e w1 ⟨rfl, rfl⟩) | (go_at_call 54; (with_reducible refine (LC.out _).mono ?_); rintro e w1 ⟨rfl, rfl⟩) | (go_at_call 54; (with_reducible refine (HC.out _).mono ?_); rintro e w1 ⟨rfl, rfl⟩) | (go_at_call 55; (with_reducible refine (IC.out _).mono ?_); rintro e w2 ⟨rfl, hb2⟩)); go_ret; exact ⟨ret_int (by rw [HR2.out]), hb0.trans hb2⟩
           | true =>
             have HR2 := Lib.hid (show chkE x = if stayU (eH x) = false then 4 else 0 by rw [HR.out, k8]; simp); rw [k8] at IC; clear k8; cases k : stayU (eH x) <;>
             · rw [k] at SC HR2; clear k; go_enter Tryz.func23, Tryz.ntmps23; go_wp2_with (first | (go_at_call 54; (with_reducible refine (TC.out _).mono ?_); rintro e w1 ⟨rfl, rfl⟩) | (go_at_call 54; (with_reducible refine (LC.out _).mono ?_); rintro e w1 ⟨rfl, rfl⟩) | (go_at_call 54; (with_reducible refine (HC.out _).mono ?_); rintro e w1 ⟨rfl, rfl⟩) | (go_at_call 55; (with_reducible refine (IC.out _).mono ?_); rintro e w2 ⟨rfl, hb2⟩; obtain ⟨l2, c0, c1, c2, c3, c4⟩ := hB0.of_bl hb2; have hE2 := hE0.of_bl hb2; have hM2 := hM0.of_bl hb2) | (go_at_call 56; (with_reducible refine (SC.out _ hE2 hM2).mono ?_); rintro e w3 ⟨rfl, hb3⟩)); go_ret; exact ⟨ret_int (by rw [HR2.out]; rfl), (hb0.trans hb2).trans hb3⟩
def Rs (s : Shf) : Prop := s.1.length ≤ 20 ∧ s.2.length ≤ 40 ∧ (Srt s.1 ∧ Ids s.1 ∧ ∀ x ∈ s.1, chkE x = 0) ∧ s.2.Pairwise ltT ∧ ∀ i ∈ s.2, i ≠ [] ∧ i.length ≤ 60
theorem stE_zero (seen : List Ent) (x : Ent) : stE seen x = 0 ↔ chkE x = 0 ∧ (∀ y ∈ seen, eI y ≠ eI x) ∧ ∀ p, seen.getLast? = some p → Ahd p x := by
 unfold stE; by_cases h1 : chkE x = 0
 · rw [if_neg (by simpa using h1)]; by_cases h2 : (seen.any fun y => decide (eI y = eI x)) = true
   · rw [if_pos h2]; constructor
     · intro h; omega
     · rintro ⟨_, h, _⟩; obtain ⟨y, hy, e⟩ := List.any_eq_true.1 h2; exact absurd (by simpa using e) (h y hy)
   · rw [if_neg h2]; have h3 : ∀ y ∈ seen, eI y ≠ eI x := fun y hy e => h2 (List.any_eq_true.2 ⟨y, hy, by simpa using e⟩)
     cases hp : seen.getLast? with
     | none =>
       rw [if_neg (by simp)]; simp only [true_iff]; exact ⟨h1, h3, fun q e => by cases e⟩
     | some p =>
       by_cases h4 : Ahd p x
       · rw [if_neg (by rw [Option.any_some, decide_eq_true_eq, ordE_nn]; exact fun h => h h4)]; simp only [true_iff]; exact ⟨h1, h3, fun q e => by cases e; exact h4⟩
       · rw [if_pos (by rw [Option.any_some, decide_eq_true_eq, ordE_nn]; exact h4)]; constructor
         · intro h; omega
         · rintro ⟨_, _, h⟩; exact absurd (h p rfl) h4
 · rw [if_pos h1]; constructor
   · intro h; exact absurd h h1
   · rintro ⟨h, _⟩; exact absurd h h1
theorem pw_snoc {α : Type} (R : α → α → Prop) (ht : ∀ a b c : α, R a b → R b c → R a c) {l : List α} (h : l.Pairwise R) {x : α} (hx : ∀ p, l.getLast? = some p → R p x) : ∀ y ∈ l, R y x := by
 intro y hy; rcases List.eq_nil_or_concat l with rfl | ⟨m, p, rfl⟩
 · simp at hy
 · simp only [List.concat_eq_append] at *; have hp := hx p (by simp); obtain ⟨_, _, h3⟩ := List.pairwise_append.1 h; rcases List.mem_append.1 hy with k | k
   · exact ht _ _ _ (h3 y k p (by simp)) hp
   · simp only [List.mem_singleton] at k; subst k; exact hp
theorem enG_zero (r : List Ent) : ∀ (seen : List Ent), Srt seen → Ids seen → (enG seen r = 0 ↔ Srt (seen ++ r) ∧ Ids (seen ++ r) ∧ ∀ x ∈ r, chkE x = 0) := by
 induction r with
 | nil => intro seen h1 h2; simp [enG, h1, h2]
 | cons x r ih =>
   intro seen h1 h2; have e : seen ++ x :: r = (seen ++ [x]) ++ r := by simp
   unfold enG; by_cases h : stE seen x = 0
   · rw [if_neg (by simpa using h)]; obtain ⟨k1, k2, k3⟩ := (stE_zero seen x).1 h; have a1 : Srt (seen ++ [x]) := List.pairwise_append.2 ⟨h1, List.pairwise_singleton _ _, fun y hy z hz => by
      simp only [List.mem_singleton] at hz; subst hz; exact pw_snoc Ahd (fun _ _ _ => Ahd_trans) h1 k3 y hy⟩
     have a2 : Ids (seen ++ [x]) := List.pairwise_append.2 ⟨h2, List.pairwise_singleton _ _, fun y hy z hz => by
      simp only [List.mem_singleton] at hz; subst hz; exact k2 y hy⟩
     rw [ih _ a1 a2, e]; constructor
     · rintro ⟨b1, b2, b3⟩; exact ⟨b1, b2, fun y hy => by rcases List.mem_cons.1 hy with rfl | hy; exact k1; exact b3 y hy⟩
     · rintro ⟨b1, b2, b3⟩; exact ⟨b1, b2, fun y hy => b3 y (List.mem_cons_of_mem _ hy)⟩
   · rw [if_pos h]; constructor
     · intro k; exact absurd k h
     · rintro ⟨b1, b2, b3⟩; refine absurd ((stE_zero seen x).2 ⟨b3 x (by simp), fun y hy => ?_, fun p hp => ?_⟩) h
       · exact (List.pairwise_append.1 b2).2.2 y hy x (by simp)
       · exact (List.pairwise_append.1 b1).2.2 p (List.mem_of_getLast? hp) x (by simp)
theorem rdT1_zero (p : Option Nm) (s : Nm) : rdT1 p s = 0 ↔ s ≠ [] ∧ s.length ≤ 60 ∧ ∀ q, p = some q → ltT q s := by
 unfold rdT1; by_cases h1 : s = []
 · rw [if_pos h1]; simp [h1]
 · rw [if_neg h1]; by_cases h2 : 60 < s.length
   · rw [if_pos h2]; constructor
     · intro h; omega
     · rintro ⟨_, h, _⟩; omega
   · rw [if_neg h2]; cases p with
     | none => simp [h1]; omega
     | some q =>
       simp only [Option.any_some, Bool.not_eq_true']; by_cases h3 : Op.bytesLess q s = true
       · rw [if_neg (by simp [h3])]; simp only [true_iff]; exact ⟨h1, by omega, fun u e => by cases e; exact h3⟩
       · rw [if_pos (by simpa using h3)]; constructor
         · intro h; omega
         · rintro ⟨_, _, h⟩; exact absurd (h q rfl) h3
theorem rdG_zero (r : List Nm) : ∀ (seen : List Nm), seen.Pairwise ltT → (rdG seen.getLast? r = 0 ↔ (seen ++ r).Pairwise ltT ∧ ∀ i ∈ r, i ≠ [] ∧ i.length ≤ 60) := by
 induction r with
 | nil => intro seen h1; simp [rdG, h1]
 | cons x r ih =>
   intro seen h1; have e : seen ++ x :: r = (seen ++ [x]) ++ r := by simp
   unfold rdG; by_cases h : rdT1 seen.getLast? x = 0
   · rw [if_neg (by simpa using h)]; obtain ⟨k1, k2, k3⟩ := (rdT1_zero _ x).1 h; have a1 : (seen ++ [x]).Pairwise ltT := List.pairwise_append.2 ⟨h1, List.pairwise_singleton _ _, fun y hy z hz => by
      simp only [List.mem_singleton] at hz; subst hz; exact pw_snoc ltT (fun _ _ _ => ltT_trans) h1 k3 y hy⟩
     have h5 := ih (seen ++ [x]) a1; rw [List.getLast?_append, List.getLast?_singleton] at h5; simp only [Option.some_or] at h5; rw [h5, e]; constructor
     · rintro ⟨b1, b3⟩; exact ⟨b1, fun y hy => by rcases List.mem_cons.1 hy with rfl | hy; exact ⟨k1, k2⟩; exact b3 y hy⟩
     · rintro ⟨b1, b3⟩; exact ⟨b1, fun y hy => b3 y (List.mem_cons_of_mem _ hy)⟩
   · rw [if_pos h]; constructor
     · intro k; exact absurd k h
     · rintro ⟨b1, b3⟩; obtain ⟨c1, c2⟩ := b3 x (by simp); exact absurd ((rdT1_zero _ x).2 ⟨c1, c2, fun p hp => (List.pairwise_append.1 b1).2.2 p (List.mem_of_getLast? hp) x (by simp)⟩) h
theorem ckS_iff (s : Shf) : ckS s = 0 ↔ Rs s := by
 have h1 := enG_zero s.1 [] List.Pairwise.nil List.Pairwise.nil; have h2 := rdG_zero s.2 [] List.Pairwise.nil; simp only [List.nil_append, List.getLast?_nil] at h1 h2; unfold ckS Rs; by_cases h : 20 < s.1.length ∨ 40 < s.2.length
 · rw [if_pos h]; constructor
   · intro h; omega
   · rintro ⟨a, b, _⟩; omega
 · rw [if_neg h]; by_cases h3 : enG [] s.1 = 0
   · rw [if_neg (by simpa using h3), h2]; rw [h1] at h3; constructor
     · intro k; exact ⟨by omega, by omega, h3, k⟩
     · rintro ⟨_, _, _, k⟩; exact k
   · rw [if_pos h3]; constructor
     · intro k; exact absurd k h3
     · rintro ⟨_, _, k, _⟩; exact absurd (h1.2 k) h3
theorem bsT_cut {l : List Nm} (h : l.Pairwise ltT) (x : Nm) : bsT l x ≤ l.length ∧ (∀ y ∈ l.take (bsT l x), ltT y x) ∧ ∀ y ∈ l.drop (bsT l x), ¬ ltT y x := by
 have H := bs_cut (n := l.length) (fun t => Op.bytesLess (l.getD t []) x) (fun a b hab hb hp => by
  by_cases e : a = b
  · subst e; exact hp
  · have h2 := pw_get h (show a < b by omega) hb; rw [getD_get _ _ _ hb] at hp; rw [getD_get _ _ _ (by omega)]; exact ltT_trans h2 hp)
 refine ⟨H.1, fun y hy => ?_, fun y hy => ?_⟩
 · obtain ⟨t, ht, rfl⟩ := List.getElem_of_mem hy; rw [List.length_take] at ht; have := H.2.1 t (by show t < bsT l x; omega); rw [getD_get _ _ _ (by omega)] at this; rw [List.getElem_take]; exact this
 · obtain ⟨t, ht, rfl⟩ := List.getElem_of_mem hy; rw [List.length_drop] at ht; have := H.2.2 (bsT l x + t) (by show bsT l x ≤ _; omega) (by omega); rw [getD_get _ _ _ (by omega)] at this; rw [List.getElem_drop]; unfold ltT; rw [this]; simp
theorem fnT_at {l : List Nm} {x : Nm} (h : fnT l x = true) : ∃ hk : bsT l x < l.length, l[bsT l x] = x := by
 unfold fnT at h; obtain ⟨h1, h2⟩ := of_decide_eq_true h; rw [getD_get _ _ _ h1] at h2; exact ⟨h1, h2⟩
theorem fnT_iff {l : List Nm} (h : l.Pairwise ltT) (x : Nm) : fnT l x = true ↔ x ∈ l := by
 constructor
 · intro k; obtain ⟨hk, e⟩ := fnT_at k; rw [← e]; exact List.getElem_mem hk
 · intro k; obtain ⟨c1, c2, c3⟩ := bsT_cut h x; have h4 : (l.take (bsT l x) ++ l.drop (bsT l x)).Pairwise ltT := by rw [List.take_append_drop]; exact h
   have k2 := k; rw [← List.take_append_drop (bsT l x) l] at k2; rcases List.mem_append.1 k2 with k3 | k3
   · exact absurd (c2 x k3) (ltT_irr x)
   · have hlt : bsT l x < l.length := by
      rcases Nat.lt_or_ge (bsT l x) l.length with q | q
      · exact q
      · rw [List.drop_of_length_le q] at k3; simp at k3
     unfold fnT; refine decide_eq_true ⟨hlt, ?_⟩; rw [getD_get _ _ _ hlt]; rw [List.drop_eq_getElem_cons hlt] at k3 h4; rcases List.mem_cons.1 k3 with e | e
     · exact e.symm
     · have := (List.pairwise_cons.1 (List.pairwise_append.1 h4).2.1).1 x e; exact absurd this (c3 _ (by rw [List.drop_eq_getElem_cons hlt]; exact List.mem_cons_self))
theorem insT_srt {l : List Nm} (h : l.Pairwise ltT) {x : Nm} (hx : x ∉ l) : (insA l (bsT l x) x).Pairwise ltT := by
 obtain ⟨c1, c2, c3⟩ := bsT_cut h x; have h4 : (l.take (bsT l x) ++ l.drop (bsT l x)).Pairwise ltT := by rw [List.take_append_drop]; exact h
 obtain ⟨a1, a2, a3⟩ := List.pairwise_append.1 h4; unfold insA; refine List.pairwise_append.2 ⟨a1, List.pairwise_cons.2 ⟨fun y hy => ?_, a2⟩, fun y hy z hz => ?_⟩
 · rcases ltT_tot x y (fun e => hx (by rw [e]; exact List.mem_of_mem_drop hy)) with k | k
   · exact k
   · exact absurd k (c3 y hy)
 · rcases List.mem_cons.1 hz with rfl | hz
   · exact c2 y hy
   · exact a3 y hy z hz
theorem delT_mem {l : List Nm} (h : l.Pairwise ltT) {k : Nat} (hk : k < l.length) (y : Nm) : y ∈ delA l k ↔ y ∈ l ∧ y ≠ l[k] := by
 have e : l = l.take k ++ l[k] :: l.drop (k + 1) := by rw [← List.drop_eq_getElem_cons hk, List.take_append_drop]
 have h2 : (l.take k ++ l[k] :: l.drop (k + 1)).Pairwise ltT := by rw [← e]; exact h
 obtain ⟨b1, b2, b3⟩ := List.pairwise_append.1 h2; obtain ⟨c1, c2⟩ := List.pairwise_cons.1 b2; unfold delA; constructor
 · intro h; rcases List.mem_append.1 h with h | h
   · exact ⟨List.mem_of_mem_take h, fun e => ltT_irr y (by have := b3 y h l[k] List.mem_cons_self; rw [← e] at this; exact this)⟩
   · exact ⟨List.mem_of_mem_drop h, fun e => ltT_irr y (by have := c1 y h; rw [← e] at this; exact this)⟩
 · rintro ⟨h, hn⟩; rw [e] at h; rcases List.mem_append.1 h with h | h
   · exact List.mem_append.2 (.inl h)
   · rcases List.mem_cons.1 h with rfl | h
     · exact absurd rfl hn
     · exact List.mem_append.2 (.inr h)
theorem mkC_iff (s : Shf) (i : Nm) (b : Bool) : mkC s i b = 0 ↔ Rs s ∧ (∃ k, plE s.1 i = some k) ∧ ¬ (b = true ∧ fnT s.2 i = false ∧ s.2.length = 40) := by
 rw [← ckS_iff]; unfold mkC; by_cases h : ckS s = 0
 · rw [if_neg (by simpa using h)]; cases hp : plE s.1 i with
   | none => simp
   | some k =>
     rw [if_neg (by simp)]; by_cases h2 : b = true ∧ fnT s.2 i = false ∧ s.2.length = 40
     · rw [if_pos h2]; constructor
       · intro k; omega
       · rintro ⟨_, _, k⟩; exact absurd h2 k
     · rw [if_neg h2]; exact ⟨fun _ => ⟨h, ⟨k, rfl⟩, h2⟩, fun _ => rfl⟩
 · rw [if_pos h]; exact ⟨fun k => absurd k h, fun k => absurd k.1 h⟩
theorem mark_right {s : Shf} {i : Nm} {b : Bool} (h : mkC s i b = 0) : Rs (s.1, mkR s i b) ∧ ∀ y, y ∈ mkR s i b ↔ (b = true ∧ y = i) ∨ (y ∈ s.2 ∧ (b = false → y ≠ i)) := by
 obtain ⟨hs, ⟨k, hk⟩, hn⟩ := (mkC_iff s i b).1 h; obtain ⟨h1, h2, ⟨h3, h4, h5⟩, h6, h7⟩ := hs; obtain ⟨hk1, hk2⟩ := plE_some hk; have hi : i ≠ [] ∧ i.length ≤ 60 := by
  have := h5 s.1[k] (List.getElem_mem hk1); unfold chkE at this; rw [hk2] at this; by_cases e : i = []
  · rw [if_pos e] at this; omega
  · rw [if_neg e] at this; refine ⟨e, ?_⟩; by_cases e2 : 60 < i.length
    · rw [if_pos (.inl e2)] at this; omega
    · omega
 cases b with
 | true =>
   cases hf : fnT s.2 i with
   | true =>
     have he : mkR s i true = s.2 := by unfold mkR; rw [if_pos rfl, hf]; rfl
     rw [he]; refine ⟨⟨h1, h2, ⟨h3, h4, h5⟩, h6, h7⟩, fun y => ⟨fun hy => .inr ⟨hy, fun e => by cases e⟩, ?_⟩⟩; rintro (⟨_, rfl⟩ | ⟨hy, _⟩)
     · exact (fnT_iff h6 y).1 hf
     · exact hy
   | false =>
     have he : mkR s i true = insA s.2 (bsT s.2 i) i := by unfold mkR; rw [if_pos rfl, hf]; rfl
     have hni : i ∉ s.2 := fun k => by rw [(fnT_iff h6 i).2 k] at hf; cases hf
     have hlen : s.2.length ≠ 40 := fun e => hn ⟨rfl, hf, e⟩
     rw [he]; refine ⟨⟨h1, ?_, ⟨h3, h4, h5⟩, insT_srt h6 hni, fun y hy => ?_⟩, fun y => ?_⟩
     · show (insA s.2 (bsT s.2 i) i).length ≤ 40; rw [len_insA]; omega
     · rcases (mem_insA _ _ _ _).1 hy with rfl | hy
       · exact hi
       · exact h7 y hy
     · rw [mem_insA]; constructor
       · rintro (rfl | hy)
         · exact .inl ⟨rfl, rfl⟩
         · exact .inr ⟨hy, fun e => by cases e⟩
       · rintro (⟨_, rfl⟩ | ⟨hy, _⟩)
         · exact .inl rfl
         · exact .inr hy
 | false =>
   cases hf : fnT s.2 i with
   | true =>
     have he : mkR s i false = delA s.2 (bsT s.2 i) := by unfold mkR; rw [if_neg (by simp), hf]; rfl
     obtain ⟨q1, q2⟩ := fnT_at hf; have hm := delT_mem h6 q1; rw [he]; refine ⟨⟨h1, ?_, ⟨h3, h4, h5⟩, List.Pairwise.sublist (sub_delA _ _) h6, fun y hy => h7 y ((hm y).1 hy).1⟩, fun y => ?_⟩
     · show (delA s.2 (bsT s.2 i)).length ≤ 40; rw [len_delA _ _ q1]; omega
     · rw [hm, q2]; constructor
       · rintro ⟨hy, hn⟩; exact .inr ⟨hy, fun _ => hn⟩
       · rintro (⟨e, _⟩ | ⟨hy, hn⟩)
         · cases e
         · exact ⟨hy, hn rfl⟩
   | false =>
     have he : mkR s i false = s.2 := by unfold mkR; rw [if_neg (by simp), hf]; rfl
     have hni : i ∉ s.2 := fun k => by rw [(fnT_iff h6 i).2 k] at hf; cases hf
     rw [he]; refine ⟨⟨h1, h2, ⟨h3, h4, h5⟩, h6, h7⟩, fun y => ⟨fun hy => .inr ⟨hy, fun _ e => hni (e ▸ hy)⟩, ?_⟩⟩; rintro (⟨e, _⟩ | ⟨hy, _⟩)
     · cases e
     · exact hy
theorem drL_eq {s : Shf} (h : Rs s) : drL s = s.1.filter fun x => !s.2.contains (eI x) := by
 unfold drL; refine congrArg (fun p => s.1.filter p) (funext fun x => ?_); have h6 := h.2.2.2.1; cases e : fnT s.2 (eI x) with
 | true => have := (fnT_iff h6 _).1 e; simp [this]
 | false =>
   have : eI x ∉ s.2 := fun k => by rw [(fnT_iff h6 _).2 k] at e; cases e
   simp [this]
theorem flt_one {l : List Ent} (hi : Ids l) {i : Nm} (hm : ∃ x ∈ l, eI x = i) (p q : Ent → Bool) (hpq : ∀ x ∈ l, eI x ≠ i → p x = q x) (hp : ∀ x ∈ l, eI x = i → p x = false ∧ q x = true) : (l.filter q).length = (l.filter p).length + 1 := by
 obtain ⟨x, hx, he⟩ := hm; obtain ⟨a, b, rfl⟩ := List.append_of_mem hx; obtain ⟨b1, b2, b3⟩ := List.pairwise_append.1 hi; obtain ⟨c1, c2⟩ := List.pairwise_cons.1 b2; have ha : a.filter p = a.filter q := List.filter_congr fun y hy => hpq y (by simp [hy]) (by rw [← he]; exact b3 y hy x (by simp))
 have hb : b.filter p = b.filter q := List.filter_congr fun y hy => hpq y (by simp [hy]) (by rw [← he]; exact fun e => c1 y hy e.symm)
 obtain ⟨e1, e2⟩ := hp x hx he; rw [List.filter_append, List.filter_append, List.filter_cons, List.filter_cons, e1, e2, ha, hb]; simp; omega
theorem marks {s : Shf} {i : Nm} (h : mkC s i true = 0) : ckS (s.1, mkR s i true) = 0 ∧ mkC (s.1, mkR s i true) i false = 0 ∧ ckS (s.1, mkR (s.1, mkR s i true) i false) = 0 ∧
 (unL (s.1, mkR (s.1, mkR s i true) i false)).length = (unL (s.1, mkR s i true)).length + 1 ∧ (∀ y ∈ unL (s.1, mkR s i true), y ≠ i) ∧ i ∈ unL (s.1, mkR (s.1, mkR s i true) i false) := by
 obtain ⟨hs, ⟨k, hk⟩, -⟩ := (mkC_iff s i true).1 h; obtain ⟨r1, m1⟩ := mark_right h; have h2 : mkC (s.1, mkR s i true) i false = 0 := (mkC_iff _ _ _).2 ⟨r1, ⟨k, hk⟩, fun e => by cases e.1⟩; obtain ⟨r2, m2⟩ := mark_right h2; have h2' : (s.1, mkR s i true).1 = s.1 := rfl; obtain ⟨hk1, hk2⟩ := plE_some hk; have hi := hs.2.2.1.2.1; have d1 := drL_eq r1; have d2 := drL_eq (s := (s.1, mkR (s.1, mkR s i true) i false)) r2; refine ⟨(ckS_iff _).2 r1, h2, (ckS_iff _).2 r2, ?_, ?_, ?_⟩
 · unfold unL; rw [List.length_map, List.length_map, d1, d2]; refine flt_one hi ⟨s.1[k], List.getElem_mem hk1, hk2⟩ _ _ (fun x _ hx => ?_) (fun x _ hx => ?_)
   · have e1 := m1 (eI x); have e2 := m2 (eI x); have e3 : eI x ∈ mkR (s.1, mkR s i true) i false ↔ eI x ∈ mkR s i true := by
      rw [e2]; constructor
      · rintro (⟨e, _⟩ | ⟨e, _⟩)
        · cases e
        · exact e
      · intro e; exact .inr ⟨e, fun _ => hx⟩
     show (!(mkR s i true).contains (eI x)) = !(mkR (s.1, mkR s i true) i false).contains (eI x); simp only [List.contains_eq_mem, e3]
   · have e1 : eI x ∈ mkR s i true := (m1 _).2 (.inl ⟨rfl, hx⟩); have e2 : eI x ∉ mkR (s.1, mkR s i true) i false := fun k => by
      rcases (m2 _).1 k with ⟨e, _⟩ | ⟨_, e⟩
      · cases e
      · exact e rfl hx
     show (!(mkR s i true).contains (eI x)) = false ∧ (!(mkR (s.1, mkR s i true) i false).contains (eI x)) = true; simp [e1, e2]
 · intro y hy e; unfold unL at hy; rw [d1] at hy; obtain ⟨x, hx, rfl⟩ := List.mem_map.1 hy; obtain ⟨_, h4⟩ := List.mem_filter.1 hx; have e1 : eI x ∈ mkR s i true := (m1 _).2 (.inl ⟨rfl, e⟩); have h4 : (!(mkR s i true).contains (eI x)) = true := h4; simp [e1] at h4
 · unfold unL; rw [d2]; refine List.mem_map.2 ⟨s.1[k], List.mem_filter.2 ⟨List.getElem_mem hk1, ?_⟩, hk2⟩; have e2 : eI s.1[k] ∉ mkR (s.1, mkR s i true) i false := fun q => by
    rcases (m2 _).1 q with ⟨e, _⟩ | ⟨_, e⟩
    · cases e
    · exact e rfl hk2
   show (!(mkR (s.1, mkR s i true) i false).contains (eI s.1[k])) = true; simp [e2]
def Tm (x : Ent) : Prop := 0 ≤ eA x ∧ eA x ≤ 4102444799
theorem tm_of {x : Ent} (h : chkE x = 0) : Tm x := by
 unfold chkE at h; unfold Tm
 (repeat' split at h) <;> omega
theorem order_c (x y : Ent) (hx : Tm x) (hy : Tm y) (w : World) :
 Calls Tryz.prog 59 #[enV x, enV y] w fun e w' => e = .returned (.int .i64 (ordE x y)) ∧ w' = (w.alloc (enO x 23)).alloc (enO y 23) := by
 obtain ⟨x1, x2⟩ := hx; obtain ⟨y1, y2⟩ := hy; have CC := Lib.hid (fun W => (Tryz.strings_Compare ⟨(eI x).toArray⟩ ⟨(eI y).toArray⟩ W).mono fun e w' ⟨h1, h2⟩ => (⟨by rw [h1]; rfl, h2.symm⟩ : e = Ending.returned (.int .i64 (cmpT (eI x) (eI y))) ∧ W = w')); unfold enV; by_cases h : eA x = eA y
 · have HR := Lib.hid (show ordE x y = cmpT (eI x) (eI y) by unfold ordE; rw [if_neg (by simpa using h)]); have h' : (eA x != eA y) = false := by simp [h]
   clear h; go_enter Tryz.func59, Tryz.ntmps59; go_wp2_with (go_at_call 94; (with_reducible refine (CC.out _).mono ?_); rintro e w1 ⟨rfl, rfl⟩); go_ret; exact ⟨ret_int (by rw [HR.out]), rfl⟩
 · have HR := Lib.hid (show ordE x y = eA y - eA x by unfold ordE; rw [if_pos h]); have h' : (eA x != eA y) = true := by simp [h]
   clear h; go_enter Tryz.func59, Tryz.ntmps59; go_wp2; go_ret; exact ⟨ret_int (by rw [HR.out]), rfl⟩
def prv (l : List Nm) (k : Nat) : Option Nm := if k = 0 then none else l[k - 1]?
theorem rdG_at (l : List Nm) (k : Nat) (h : k < l.length) : rdG (prv l k) (l.drop k) = if rdT1 (prv l k) l[k] ≠ 0 then rdT1 (prv l k) l[k] else rdG (prv l (k + 1)) (l.drop (k + 1)) := by
 rw [List.drop_eq_getElem_cons h, rdG]; have e : prv l (k + 1) = some l[k] := by unfold prv; rw [if_neg (by omega)]; simp [h]
 rw [e]
theorem rdT1_in (p : Option Nm) (s : Nm) (h1 : s ≠ []) (h2 : ¬ 60 < s.length) : rdT1 p s = if (p.any fun q => !Op.bytesLess q s) = true then 4 else 0 := by
 unfold rdT1; rw [if_neg h1, if_neg h2]
theorem leq_not (s p : Nm) : (Op.bytesLess s p || s == p) = !Op.bytesLess p s := by
 cases h : Op.bytesLess p s with
 | true =>
   have h1 : Op.bytesLess s p = false := by
    cases h2 : Op.bytesLess s p with
    | false => rfl
    | true => exact absurd (ltT_trans (show ltT s p from h2) h) (ltT_irr s)
   have h3 : s ≠ p := by rintro rfl; exact ltT_irr s h
   simp [h1, h3]
 | false =>
   by_cases e : s = p
   · simp [e]
   · rcases ltT_tot s p e with k | k
     · unfold ltT at k; simp [k]
     · unfold ltT at k; rw [k] at h; cases h
theorem idsR_c (l : List Nm) (v : Value) (hl : l.length ≤ 1099511627776) (w : World) (hA : StS w v l) :
 Calls Tryz.prog 60 #[v] w fun e w' => e = .returned (.int .i64 (rdG none l)) ∧ Bl w w' := by
 obtain ⟨ao, cap, rfl, hc, hA⟩ := hA; go_enter Tryz.func60, Tryz.ntmps60; go_wp2; go_loopw [7] (fun i wr => ∃ k : Nat, k ≤ l.length ∧ i = .int .i64 k ∧ Hid (rdG none l = rdG (prv l k) (l.drop k)) ∧ Bl w wr) (fun i _ => l.length - (intOf i).toNat); case atStart => exact ⟨0, Nat.zero_le _, rfl, Lib.hid rfl, Bl.refl _⟩
 case round =>
  obtain ⟨k, hk, rfl, HP, hbl⟩ := hrel; by_cases hlt : k < l.length
  · obtain ⟨g, o, rfl, hg, h1⟩ := hA k hlt; have x1 := (hbl.cells.1 g _ hg).trans h1; have HS := Lib.hid (HP.out.trans (rdG_at l k hlt)); have HT := Lib.hid (rdT1_in (prv l k) l[k]); have HP0 := Lib.hid (show k = 0 → prv l k = none from fun e => by unfold prv; rw [if_pos e]); have HP1 : ∀ _ : k ≠ 0, ∃ p, prv l k = some p ∧ wr.cell? ⟨g, o + (k - 1), none⟩ = some (.string ⟨p.toArray⟩) := fun e => by
     obtain ⟨g', o', e2, hg', h2⟩ := hA (k - 1) (by omega); cases e2; refine ⟨l[k - 1], ?_, (hbl.cells.1 g _ hg).trans h2⟩; unfold prv; rw [if_neg e, List.getElem?_eq_getElem (by omega)]
    have HT1 := Lib.hid (show l[k] = [] → rdT1 (prv l k) l[k] = 1 from fun e => by unfold rdT1; rw [if_pos e]); have HT2 := Lib.hid (show l[k] ≠ [] → 60 < l[k].length → rdT1 (prv l k) l[k] = 2 from fun e e2 => by unfold rdT1; rw [if_neg e, if_pos e2]); obtain ⟨s, hs⟩ : ∃ s, s = l[k] := ⟨_, rfl⟩; obtain ⟨P, hP⟩ : ∃ P, P = prv l k := ⟨_, rfl⟩; rw [← hs, ← hP] at HS HT HT1 HT2; rw [← hs] at x1; rw [← hP] at HP0 HP1; clear h1 hA HP hs hP; by_cases hse : s = []
    · have HF := Lib.hid (HT1.out hse); subst hse; go_wp2; go_ret; exact ⟨ret_int (by rw [HS.out, HF.out]; rfl), hbl⟩
    · have hse' : s.isEmpty = false := by cases s <;> simp_all
      by_cases hsl : 60 < s.length
      · have HF := Lib.hid (HT2.out hse hsl); have hsl' : (60 : Int) < (s.length : Int) := by omega
        clear hse hsl; go_wp2; go_ret; exact ⟨ret_int (by rw [HS.out, HF.out]; rfl), hbl⟩
      · have hsl' : ¬ (60 : Int) < (s.length : Int) := by omega
        have HT3 := Lib.hid (HT.out hse hsl); clear hse hsl HT1 HT2 HT; by_cases hk0 : k = 0
        · have HF := Lib.hid (show rdT1 P s = 0 by rw [HT3.out, HP0.out hk0]; rfl); subst hk0; rw [Nat.add_zero] at x1; clear HP1; go_wp2; go_roundw; case rel => exact ⟨1, by omega, by go_num, Lib.hid (by rw [HS.out, HF.out]; rfl), hbl⟩
          case measure => simp [intOf]; omega
        · obtain ⟨p, hp, xp⟩ := HP1 hk0; have HT4 := Lib.hid (show rdT1 P s = if (!Op.bytesLess p s) = true then 4 else 0 by rw [HT3.out, hp]; rfl); have hk1 : (0 : Int) < (k : Int) := by omega
          have hk2 : ((k : Int) - 1) = ((k - 1 : Nat) : Int) := by omega
          have HLE := Lib.hid (leq_not s p); clear HP1 hp HP0 HT3 hk0; cases hb : Op.bytesLess p s with
          | true =>
            have HF := Lib.hid (show rdT1 P s = 0 by rw [HT4.out, hb]; rfl); have hle : (Op.bytesLess s p || s == p) = false := by rw [HLE.out, hb]; rfl
            clear hb; go_wp2; go_roundw; case rel => exact ⟨k + 1, by omega, by go_num, Lib.hid (by rw [HS.out, HF.out]; rfl), hbl⟩
            case measure => simp [intOf]; omega
          | false =>
            have HF := Lib.hid (show rdT1 P s = 4 by rw [HT4.out, hb]; rfl); have hle : (Op.bytesLess s p || s == p) = true := by rw [HLE.out, hb]; rfl
            clear hb; go_wp2; go_ret; exact ⟨ret_int (by rw [HS.out, HF.out]; rfl), hbl⟩
  · have HF := Lib.hid (show rdG none l = 0 by rw [HP.out, List.drop_of_length_le (by omega)]; rfl); go_wp2; go_ret; exact ⟨ret_int (by rw [HF.out]), hbl⟩
def EnS (w : World) (v : Value) (l : List Ent) : Prop :=
 ∃ ao cap, v = .slice ao l.length cap ∧ l.length ≤ cap ∧ ∀ i (h : i < l.length), ∃ g o, ao = some ⟨g, o, none⟩ ∧ g < w.heap.size ∧ w.cell? ⟨g, o + i * 5, none⟩ = some (.string ⟨(eI l[i]).toArray⟩) ∧ w.cell? ⟨g, o + i * 5 + 1, none⟩ = some (.string ⟨(eT l[i]).toArray⟩) ∧
   w.cell? ⟨g, o + i * 5 + 2, none⟩ = some (.string ⟨(eL l[i]).toArray⟩) ∧ w.cell? ⟨g, o + i * 5 + 3, none⟩ = some (.int .i64 (eA l[i])) ∧ w.cell? ⟨g, o + i * 5 + 4, none⟩ = some (.string ⟨(eH l[i]).toArray⟩)
theorem EnS.of_bl {w w' : World} {v : Value} {l : List Ent} (h : EnS w v l) (hb : Bl w w') : EnS w' v l := by
 obtain ⟨ao, cap, rfl, hc, h⟩ := h; refine ⟨ao, cap, rfl, hc, fun i hi => ?_⟩; obtain ⟨g, o, h1, h2, h3, h4, h5, h6, h7⟩ := h i hi; exact ⟨g, o, h1, Nat.lt_of_lt_of_le h2 (Below.size hb), (hb.cells.1 g _ h2).trans h3, (hb.cells.1 g _ h2).trans h4, (hb.cells.1 g _ h2).trans h5, (hb.cells.1 g _ h2).trans h6, (hb.cells.1 g _ h2).trans h7⟩
theorem EnS.nil (w : World) : EnS w (.slice none 0 0) [] := ⟨none, 0, rfl, Nat.le_refl _, fun i hi => absurd hi (by simp)⟩
def ShS (w : World) (v : Value) (s : Shf) : Prop := ∃ ve vr, v = .agg #[ve, vr] ∧ EnS w ve s.1 ∧ StS w vr s.2
theorem ShS.of_bl {w w' : World} {v : Value} {s : Shf} (h : ShS w v s) (hb : Bl w w') : ShS w' v s := by
 obtain ⟨ve, vr, e, h1, h2⟩ := h; exact ⟨ve, vr, e, h1.of_bl hb, h2.of_bl hb⟩
end Go.Proofs.YtamdlihgecpbkaaGreatDoor
namespace Go.Proofs.YtamdlihgecpbkaaGreatDoor
open Go.RowKit Go.WideMaps Go.Maps
theorem Tryz.lawS : Keyed Tryz.prog 9 := string_keyed Tryz.underlying9
theorem Tryz.zeroI (w : World) : (zeroValue 3).run Tryz.prog w = .ok (.int .i64 0) w := by kernel_rfl
def cntI (t : Nm) (l : List Ent) : Nat := (l.filter fun x => decide (eI x = t)).length
theorem cntI_snoc (t : Nm) (l : List Ent) (x : Ent) : cntI t (l ++ [x]) = cntI t l + if eI x = t then 1 else 0 := by
 unfold cntI; rw [List.filter_append, List.length_append]; by_cases h : eI x = t <;> simp [h]
theorem cntI_pos (t : Nm) (l : List Ent) : 0 < cntI t l ↔ (l.any fun y => decide (eI y = t)) = true := by
 unfold cntI; rw [List.length_pos_iff_exists_mem, List.any_eq_true]; constructor
 · rintro ⟨x, h⟩; obtain ⟨h1, h2⟩ := List.mem_filter.1 h; exact ⟨x, h1, h2⟩
 · rintro ⟨x, h1, h2⟩; exact ⟨x, List.mem_filter.2 ⟨h1, h2⟩⟩
theorem cntI_le (t : Nm) (l : List Ent) : cntI t l ≤ l.length := List.length_filter_le _ _
abbrev DU := DataW Unit
def MpI (w : World) (B : Nat) (n : Nat) (l : List Ent) : Prop :=
 ∃ D : DU, w.ownsMap Tryz.prog 9 (plainElem Tryz.prog 3) B n D ∧ ∀ t : Nm, D.atKey (.string t) (.lit (.int .i64 0)) = .lit (.int .i64 (cntI t l))
theorem map_bl {w w' : World} {P : Program} {k : TypeId} {R : Value → Option (DU × List MemPlace)} {b n : Nat} {D : DU} (h : w.ownsMap P k R b n D) (hb : Bl w w') : w'.ownsMap P k R b n D := by
 have hlt := h.lt; obtain ⟨es, clock, h1, h2⟩ := h; exact ⟨es, clock, (Below.block hb b hlt).trans h1, h2⟩
theorem MpI.of_bl {w w' : World} {B n : Nat} {l : List Ent} (h : MpI w B n l) (hb : Bl w w') : MpI w' B n l := by
 obtain ⟨D, h1, h2⟩ := h; exact ⟨D, map_bl h1 hb, h2⟩
theorem MpI.made (w : World) : MpI (w.alloc (.map #[] 0)) w.heap.size 0 [] := ⟨.map [], World.ownsMap_made _ _ _ _, fun _t => rfl⟩
theorem isKeyS (t : Nm) : WideAt.IsKeyLit (.string t) := by first | exact trivial | constructor | simp [WideAt.IsKeyLit]
theorem enG_at (l : List Ent) (k : Nat) (h : k < l.length) : enG (l.take k) (l.drop k) = if stE (l.take k) l[k] ≠ 0 then stE (l.take k) l[k] else enG (l.take (k + 1)) (l.drop (k + 1)) := by
 rw [List.drop_eq_getElem_cons h, enG, take_snoc l k h]
theorem stE_chk {seen : List Ent} {x : Ent} (h : chkE x ≠ 0) : stE seen x = chkE x := by unfold stE; rw [if_pos h]
theorem stE_twice {seen : List Ent} {x : Ent} (h : chkE x = 0) (h2 : 0 < cntI (eI x) seen) : stE seen x = 6 := by
 unfold stE; rw [if_neg (by simpa using h), if_pos ((cntI_pos _ _).1 h2)]
theorem stE_last {seen : List Ent} {x : Ent} (h : chkE x = 0) (h2 : ¬ 0 < cntI (eI x) seen) : stE seen x = if (seen.getLast?.any fun p => decide (0 ≤ ordE p x)) = true then 4 else 0 := by
 unfold stE; rw [if_neg (by simpa using h), if_neg (fun e => h2 ((cntI_pos _ _).2 e))]
theorem last_take (l : List Ent) (k : Nat) (hk : k ≤ l.length) (h : k ≠ 0) : (l.take k).getLast? = some (l[k - 1]'(by omega)) := by
 rw [List.getLast?_eq_getElem?, List.length_take, Nat.min_eq_left hk, List.getElem?_take, if_pos (by omega), List.getElem?_eq_getElem]
theorem ckS_many {s : Shf} (h : 20 < s.1.length ∨ 40 < s.2.length) : ckS s = 2 := by unfold ckS; rw [if_pos h]
theorem ckS_ent {s : Shf} (h : ¬ (20 < s.1.length ∨ 40 < s.2.length)) (h2 : enG [] s.1 ≠ 0) : ckS s = enG [] s.1 := by unfold ckS; rw [if_neg h, if_pos h2]
theorem ckS_read {s : Shf} (h : ¬ (20 < s.1.length ∨ 40 < s.2.length)) (h2 : enG [] s.1 = 0) : ckS s = rdG none s.2 := by unfold ckS; rw [if_neg h, if_neg (by simpa using h2)]
theorem B5.of_gr {w w' : World} {b : Nat} {x : Ent} {row : Option Nat} (h : B5 w b x) (hg : w.grownBy w' row) (hne : some b ≠ row) : B5 w' b x :=
 ⟨Nat.lt_of_lt_of_le h.1 hg.size, hg.cell h.2.1 hne, hg.cell h.2.2.1 hne, hg.cell h.2.2.2.1 hne, hg.cell h.2.2.2.2.1 hne, hg.cell h.2.2.2.2.2 hne⟩
theorem bl_grow (w : World) (n : Nat) (os : Array Obj) : Bl w (Sort.grow (w.drewN n) os) := by
 have h := (Bl.refl w).drewN n; exact ⟨h.os, h.tape, h.output, Nat.le_trans h.size (by simp [Sort.grow]), fun k hk => (Sort.heap_grow_old (w.drewN n) os hk).trans (h.block k hk)⟩
theorem grown_two {P : Program} {f : FuncId} {args : Array Value} {W : World} {v : Value} {a b : Obj} (h : Calls P f args W fun e w' => e = .returned v ∧ w' = (W.alloc a).alloc b) :
 Calls P f args W fun e w' => e = .returned v ∧ ∃ q os', w' = Sort.grow (W.drewN q) os' :=
 h.mono fun _ _ ⟨he, hw⟩ => ⟨he, 0, #[a, b], by rw [hw, Sort.alloc_eq_grow, Sort.alloc_eq_grow, Sort.grow_grow]; rfl⟩
theorem keyS_ok (t : Nm) (h : t.length ≤ 9223372036854775807) : keyOf Tryz.prog 9 (.string ⟨t.toArray⟩) = some (.string t) := by
 have := keyOf_string_mk (P := Tryz.prog) Tryz.underlying9 (s := ⟨t.toArray⟩) (by unfold maxLen; simp [ByteArray.size]; omega); simpa using this
theorem lit_int {k : IntKind} {a b : Int} (h : (DataW.lit (.int k a) : DU) = .lit (.int k b)) : a = b := by cases h; rfl
theorem MpI.put {w2 : World} {B k : Nat} {l : List Ent} {x : Ent} {D : DU} (h : w2.ownsMap Tryz.prog 9 (plainElem Tryz.prog 3) B (k + 1) (D.put (.string (eI x)) (.lit (.int .i64 ((cntI (eI x) l : Nat) + 1)))))
 (hD : ∀ t : Nm, D.atKey (.string t) (.lit (.int .i64 0)) = .lit (.int .i64 (cntI t l))) (hm : Maps.IsMap D) : MpI w2 B (k + 1) (l ++ [x]) := by
 refine ⟨_, h, fun t => ?_⟩; rw [cntI_snoc]; by_cases e : eI x = t
 · subst e; rw [Maps.atKey_put_same hm (isKeyS _), if_pos rfl]
   push_cast
   rfl
 · rw [Maps.atKey_put_other (fun h => e (by cases h; rfl)), hD, if_neg e, Nat.add_zero]
theorem checkS_c (s : Shf) (v : Value) (hI : ∀ x ∈ s.1, (eI x).length ≤ 9223372036854775807) (w : World) (hE : ES w) (hM : ML w) (hS : ShS w v s) :
 Calls Tryz.prog 26 #[v] w fun e w' => e = .returned (.int .i64 (ckS s)) ∧ Bl w w' := by
 obtain ⟨ve, vr, rfl, hEn, hRd⟩ := hS; have hEn0 := hEn; have hRd0 := hRd; obtain ⟨l, rd⟩ := s; obtain ⟨ao, cap, rfl, hcap, hA⟩ := hEn; obtain ⟨ar, cr, rfl, hcr, -⟩ := hRd; simp only at hI hEn0 hRd0 hcap hA hcr ⊢; by_cases hm : 20 < l.length ∨ 40 < rd.length
 · have HR := Lib.hid (ckS_many (s := (l, rd)) hm); by_cases h1 : 20 < l.length
   · have h1' : (20 : Int) < (l.length : Int) := by omega
     clear hm h1 hA; go_enter Tryz.func26, Tryz.ntmps26; go_wp2; go_ret; exact ⟨ret_int (by rw [HR.out]), (Bl.refl _).alloc _⟩
   · have h1' : ¬ (20 : Int) < (l.length : Int) := by omega
     have h2' : (40 : Int) < (rd.length : Int) := by omega
     clear hm h1 hA; go_enter Tryz.func26, Tryz.ntmps26; go_wp2; go_ret; exact ⟨ret_int (by rw [HR.out]), (Bl.refl _).alloc _⟩
 · have h1' : ¬ (20 : Int) < (l.length : Int) := by omega
   have h2' : ¬ (40 : Int) < (rd.length : Int) := by omega
   have hmm := @run_makeMap Tryz.prog; have HM1 := Lib.hid (show enG [] l ≠ 0 → ckS (l, rd) = enG [] l from fun h => ckS_ent (s := (l, rd)) hm h); have HM2 := Lib.hid (show enG [] l = 0 → ckS (l, rd) = rdG none rd from fun h => ckS_read (s := (l, rd)) hm h); have hl20 : l.length ≤ 20 := by omega
   have HRD := Lib.hid (fun W (hb : Bl w W) => idsR_c rd _ (by omega) W (hRd0.of_bl hb)); have HI := Lib.hid hI; have HE := Lib.hid hE; have HM := Lib.hid hM; clear hm hI hEn0 hRd0; go_enter Tryz.func26, Tryz.ntmps26; go_wp2; go_loopw [4, 5, 6, 21] (fun _ _ _ i wr => ∃ k : Nat, k ≤ l.length ∧ i = .int .i64 k ∧ Hid (enG [] l = enG (l.take k) (l.drop k)) ∧ Bl (w.alloc (.cells #[.slice ao l.length cap, .slice ar rd.length cr] 27)) wr ∧ MpI wr (w.heap.size + 1) k (l.take k) ∧ Hid (∀ j (h : j < l.length), j < k → chkE l[j] = 0)) (fun _ _ _ i _ => l.length - (intOf i).toNat); case atStart =>
    refine ⟨0, Nat.zero_le _, rfl, Lib.hid (by rw [List.take_zero, List.drop_zero]), (Bl.refl _).alloc _, ?_, Lib.hid (fun j _ h => by omega)⟩; have := MpI.made (w.alloc (.cells #[.slice ao l.length cap, .slice ar rd.length cr] 27)); rw [show (w.alloc (.cells #[.slice ao l.length cap, .slice ar rd.length cr] 27)).heap.size = w.heap.size + 1 by simp] at this; rw [List.take_zero]; exact this
   case round =>
    obtain ⟨k, hk, rfl, HP, hbl, hMp, HZ⟩ := hrel; have hb0 : Bl w (w.alloc (.cells #[.slice ao l.length cap, .slice ar rd.length cr] 27)) := (Bl.refl _).alloc _; have hbw := hb0.trans hbl; have hbx0 : wr.cell? ⟨w.heap.size, 0, none⟩ = some (.slice ao l.length cap) := (hbl.cells.1 w.heap.size 0 (by simp)).trans (by simp); have hbx1 : wr.cell? ⟨w.heap.size, 1, none⟩ = some (.slice ar rd.length cr) := (hbl.cells.1 w.heap.size 1 (by simp)).trans (by simp); have hbxl : w.heap.size < wr.heap.size := Nat.lt_of_lt_of_le (by simp) (Below.size hbl); by_cases hlt : k < l.length
    · obtain ⟨g, o, rfl, hg, h1, h2, h3, h4, h5⟩ := hA k hlt; have x1 := (hbw.cells.1 g _ hg).trans h1; have x2 := (hbw.cells.1 g _ hg).trans h2; have x3 := (hbw.cells.1 g _ hg).trans h3; have x4 := (hbw.cells.1 g _ hg).trans h4; have x5 := (hbw.cells.1 g _ hg).trans h5; have hgw : g < wr.heap.size := Nat.lt_of_lt_of_le hg (Below.size hbw); have HA := Lib.hid hA; have HS := Lib.hid (HP.out.trans (enG_at l k hlt)); have HTK := Lib.hid (take_snoc l k hlt); have HIx := Lib.hid (HI.out l[k] (List.getElem_mem hlt)); have HPV : ∀ j, k = j + 1 → ∃ y, (l.take k).getLast? = some y ∧ Tm y ∧ w.cell? ⟨g, o + j * 5, none⟩ = some (.string ⟨(eI y).toArray⟩) ∧ w.cell? ⟨g, o + j * 5 + 1, none⟩ = some (.string ⟨(eT y).toArray⟩) ∧
       w.cell? ⟨g, o + j * 5 + 2, none⟩ = some (.string ⟨(eL y).toArray⟩) ∧ w.cell? ⟨g, o + j * 5 + 3, none⟩ = some (.int .i64 (eA y)) ∧ w.cell? ⟨g, o + j * 5 + 4, none⟩ = some (.string ⟨(eH y).toArray⟩) := fun j e => by
       obtain ⟨g', o', e2, _, hh⟩ := hA j (by omega); cases e2; refine ⟨l[j], ?_, tm_of (HZ.out j (by omega) (by omega)), hh⟩; rw [last_take l k hk (by omega)]; congr 1; congr 1; omega
      have HPV := Lib.hid HPV; have HZ2 := Lib.hid (show chkE l[k] = 0 → ∀ j (h : j < l.length), j < k + 1 → chkE l[j] = 0 from fun e j h h2 => by
       by_cases e2 : j = k
       · subst e2; exact e
       · exact HZ.out j h (by omega))
      clear h1 h2 h3 h4 h5 hA; obtain ⟨x, hx⟩ : ∃ x, x = l[k] := ⟨_, rfl⟩; rw [← hx] at x1 x2 x3 x4 x5 HS HTK HIx HZ2; obtain ⟨D, hown, hat⟩ := hMp; obtain ⟨m, hm⟩ : ∃ m, m = cntI (eI x) (l.take k) := ⟨_, rfl⟩; have hm20 : m ≤ 20 := by
       have := cntI_le (eI x) (l.take k); rw [List.length_take] at this; omega
      have hkey := keyS_ok (eI x) HIx.out; have hBl := hown.lt; have HAT := Lib.hid hat; have HIM := Lib.hid hown.isMap; have HX := Lib.hid hx; have HMm := Lib.hid hm; have hB0 := B5.new wr x 23; have hnx0 : Below (w.heap.size + 1) wr (wr.alloc (enO x 23)) := (Below.refl _ _).alloc (by omega) _; unfold enO at hB0 hnx0; clear hx hm hat; go_upto_region 7 with fail; go_cut [] from 26 to 30 (fun wx => MpI wx (w.heap.size + 1) (k + 1) (l.take (k + 1)) ∧ B5 wx wr.heap.size x ∧ Below (w.heap.size + 1) wr wx); case first =>
       go_wp2_with (first
        | (at_lookup; refine wpList_lookup_own_int _ rfl _ _ 81 rfl 9 3 .i64 Tryz.lawS Tryz.underlying81 Tryz.underlying3 (Tryz.zeroI _) (w.heap.size + 1) k _ rfl (hown.alloc _) _ _ rfl hkey ?_; intro c hatc _; have hcm := lit_int (hatc.symm.trans (HAT.out (eI x))); rw [← HMm.out] at hcm; subst hcm)
        | (at_mapUpdate; refine wpList_mapUpdate_own _ rfl _ _ _ 81 rfl 9 3 Tryz.lawS Tryz.underlying81 _ (w.heap.size + 1) k _ rfl (hown.alloc _) (by unfold maxLen; omega) _ _ _ rfl rfl hkey _ [] (plainElem_int Tryz.underlying3 (WalkArith.wf_i64 (by omega))) ?_; intro w2 hown2 hgrow2))
       go_meet; case rel =>
        refine ⟨?_, hB0.of_gr hgrow2 (by simp only [ne_eq, Option.some.injEq]; omega), hnx0.grown hgrow2 (by simp; omega) (fun j hj => by cases hj; exact Nat.le_refl _)⟩; rw [HTK.out]; exact MpI.put (by rw [← HMm.out]; exact hown2) HAT.out HIM.out
      case rest =>
       obtain ⟨hMp2, hB2, hnx2⟩ := hcut; obtain ⟨bl, b0, b1, b2, b3, b4⟩ := hB2; have hblw : Bl w wc := Below.trans hbw (Below.mono hnx2 (by omega)); have hbW : Bl (w.alloc (.cells #[.slice (some ⟨g, o, none⟩) l.length cap, .slice ar rd.length cr] 27)) wc := Below.trans hbl (Below.mono hnx2 (by simp)); have hEc := HE.out.of_bl hblw; have hMc := HM.out.of_bl hblw; have CK0 := fun W h1 h2 => chkE_c x W h1 h2
       unfold enV at CK0; have CK := Lib.hid CK0; have HC0 := Lib.hid (show ∀ seen, chkE x ≠ 0 → stE seen x = chkE x from fun seen h => stE_chk h); have HC1 := Lib.hid (show ∀ seen, chkE x = 0 → 0 < cntI (eI x) seen → stE seen x = 6 from fun seen h h2 => stE_twice h h2); have HC2 := Lib.hid (show ∀ seen, chkE x = 0 → ¬ 0 < cntI (eI x) seen → stE seen x = if (seen.getLast?.any fun p => decide (0 ≤ ordE p x)) = true then 4 else 0 from fun seen h h2 => stE_last h h2); have HTM := Lib.hid (show chkE x = 0 → Tm x from tm_of); obtain ⟨c0, hc0⟩ : ∃ c0, c0 = chkE x := ⟨_, rfl⟩; rw [← hc0] at CK HC0 HC1 HC2 HTM HZ2; clear CK0 hc0 hown hkey hB0 hnx0; by_cases hz : c0 = 0
       · have HZ3 := Lib.hid (HZ2.out hz); have HD1 := Lib.hid (fun seen => HC1.out seen hz); have HD2 := Lib.hid (fun seen => HC2.out seen hz); have HTx := Lib.hid (HTM.out hz); subst hz; go_upto_region 11 with (go_at_call 23; (with_reducible refine (CK.out _ hEc hMc).mono ?_); rintro e w3 ⟨rfl, hb3⟩; obtain ⟨D3, hown3, hat3⟩ := hMp2.of_bl hb3; have HAT3 := Lib.hid (hat3 (eI x)); clear hat3; obtain ⟨bl3, z0, z1, z2, z3, z4⟩ := (show B5 wc wr.heap.size x from ⟨bl, b0, b1, b2, b3, b4⟩).of_bl hb3); have HCN := Lib.hid (show cntI (eI x) (l.take (k + 1)) = m + 1 by rw [HTK.out, cntI_snoc, if_pos rfl, ← HMm.out]); have HATm := Lib.hid (show D3.atKey (.string (eI x)) (.lit (.int .i64 0)) = .lit (.int .i64 ((m : Int) + 1)) by rw [HAT3.out, HCN.out]; push_cast; rfl); have hkey3 := keyS_ok (eI x) HIx.out; have hb13 : Bl w w3 := hblw.trans hb3; have hbW3 := hbW.trans hb3; by_cases hm1 : 0 < m
         · have HF := Lib.hid (show ckS (l, rd) = 6 by
            have h6 := HD1.out (l.take k) (by rw [← HMm.out]; exact hm1); have h7 : enG [] l = 6 := by rw [HS.out, h6]; rfl
            rw [HM1.out (by rw [h7]; decide), h7])
           have hm1' : (1 : Int) < (m : Int) + 1 := by omega
           go_wp2_with (at_lookup; refine wpList_lookup_own_int _ rfl _ _ 81 rfl 9 3 .i64 Tryz.lawS Tryz.underlying81 Tryz.underlying3 (Tryz.zeroI _) (w.heap.size + 1) _ _ rfl hown3 _ _ rfl hkey3 ?_; intro c hatc _; have hcm := lit_int (hatc.symm.trans HATm.out); subst hcm); go_ret; exact ⟨ret_int HF.out.symm, hb13⟩
         · have hm1' : ¬ (1 : Int) < (m : Int) + 1 := by omega
           have HST := Lib.hid (HD2.out (l.take k) (by rw [← HMm.out]; exact hm1)); obtain ⟨B, hB⟩ : ∃ B : Bool, B = decide (stE (l.take k) x ≠ 0) := ⟨_, rfl⟩; have HB := Lib.hid hB; clear hB; go_upto_region 13 with (at_lookup; refine wpList_lookup_own_int _ rfl _ _ 81 rfl 9 3 .i64 Tryz.lawS Tryz.underlying81 Tryz.underlying3 (Tryz.zeroI _) (w.heap.size + 1) _ _ rfl hown3 _ _ rfl hkey3 ?_; intro c hatc _; have hcm := lit_int (hatc.symm.trans HATm.out); subst hcm; clear hatc); clear hm1 hm1'; go_cut [42] from 43 to 55 (fun v wx => v = .bool B ∧ Bl w3 wx); case first =>
            by_cases hk0 : k = 0
            · have HF := Lib.hid (show B = false by rw [HB.out, HST.out]; simp [hk0]); subst hk0; go_quiet (fail); go_wp2; go_meet; case rel => exact ⟨by rw [HF.out], (Bl.refl _).drewN _⟩
            · obtain ⟨j, hkj⟩ : ∃ j, k = j + 1 := ⟨k - 1, by omega⟩; obtain ⟨y, hy, hty, y0, y1, y2, y3, y4⟩ := HPV.out j hkj; have hk2 : (k : Int) - 1 = (j : Int) := by omega
              have hkp : 0 < k := by omega
              have Y0 := (hb13.cells.1 g _ hg).trans y0; have Y1 := (hb13.cells.1 g _ hg).trans y1; have Y2 := (hb13.cells.1 g _ hg).trans y2; have Y3 := (hb13.cells.1 g _ hg).trans y3; have Y4 := (hb13.cells.1 g _ hg).trans y4; have hbx3 : w3.cell? ⟨w.heap.size, 0, none⟩ = some (.slice (some ⟨g, o, none⟩) l.length cap) := (hbW3.cells.1 w.heap.size 0 (by simp)).trans (by simp); have hbxl3 : w.heap.size < w3.heap.size := Nat.lt_of_lt_of_le (by simp) (Below.size hbW3); have hgw3 : g < w3.heap.size := Nat.lt_of_lt_of_le hg (Below.size hb13); have hmix : Tryz.prog.follows .mixedOrders = true := by kernel_rfl
              have hkl : j < l.length := by omega
              have hkl2 : (j : Int) < (l.length : Int) := by omega
              have hwj : IntKind.i64.wrap (j : Int) = (j : Int) := by rw [IntKind.wrap_i64]; omega
              have OC0 := fun W => order_c y x hty HTx.out W
              unfold enV at OC0; have HSY := Lib.hid (show B = decide (0 ≤ ordE y x) by
               rw [HB.out, HST.out, hy]; simp only [Option.any_some]; by_cases h : 0 ≤ ordE y x <;> simp [h])
              obtain ⟨q, hq⟩ : ∃ q, q = ordE y x := ⟨_, rfl⟩; rw [← hq] at HSY OC0; have OC := Lib.hid OC0; clear OC0 hq hk0 y0 y1 y2 y3 y4 hy x1 x2 x3 x4 x5 b0 b1 b2 b3 b4 bl hbx0 hbx1 hkj; have G0 := fun n os => cell_grown (a := ⟨g, o + j * 5, none⟩) hgw3 Y0 n os
              have G1 := fun n os => cell_grown (a := ⟨g, o + j * 5 + 1, none⟩) hgw3 Y1 n os
              have G2 := fun n os => cell_grown (a := ⟨g, o + j * 5 + 2, none⟩) hgw3 Y2 n os
              have G3 := fun n os => cell_grown (a := ⟨g, o + j * 5 + 3, none⟩) hgw3 Y3 n os
              have G4 := fun n os => cell_grown (a := ⟨g, o + j * 5 + 4, none⟩) hgw3 Y4 n os
              have K0 := fun n os => cell_grown (a := ⟨wr.heap.size, 0, none⟩) bl3 z0 n os
              have K1 := fun n os => cell_grown (a := ⟨wr.heap.size, 1, none⟩) bl3 z1 n os
              have K2 := fun n os => cell_grown (a := ⟨wr.heap.size, 2, none⟩) bl3 z2 n os
              have K3 := fun n os => cell_grown (a := ⟨wr.heap.size, 3, none⟩) bl3 z3 n os
              have K4 := fun n os => cell_grown (a := ⟨wr.heap.size, 4, none⟩) bl3 z4 n os
              have B0 := fun n os => cell_grown (a := ⟨w.heap.size, 0, none⟩) hbxl3 hbx3 n os
              refine wp_region_quiet_grown hmix (by kernel_rfl) ?_; repeat (quiet_step ((go_at_call 59; exact Calls.grown_of (grown_two (OC.out _)))))
              refine wpQuiet_nil ?_; intro _ hw'; obtain ⟨⟨nq, osq⟩, hw''⟩ := hw'; subst hw''; go_wp2; go_meet; case rel => exact ⟨by rw [HSY.out], bl_grow _ _ _⟩
           case rest =>
            obtain ⟨rfl, hb4⟩ := hcut; cases B with
            | true =>
              have HF := Lib.hid (show ckS (l, rd) = 4 by
               have h5 : stE (l.take k) x ≠ 0 := of_decide_eq_true HB.out.symm; have h6 : stE (l.take k) x = 4 := by
                have := HST.out; split at this
                · exact this
                · exact absurd this h5
               have h7 : enG [] l = 4 := by rw [HS.out, h6]; rfl
               rw [HM1.out (by rw [h7]; decide), h7])
              go_wp2; go_ret; exact ⟨ret_int HF.out.symm, hb13.trans hb4⟩
            | false =>
              have HF := Lib.hid (show enG [] l = enG (l.take (k + 1)) (l.drop (k + 1)) by
               have h5 : ¬ stE (l.take k) x ≠ 0 := of_decide_eq_false HB.out.symm; rw [HS.out, if_neg h5])
              go_wp2; go_roundw; case rel => exact ⟨k + 1, by omega, by go_num, HF, hbW3.trans hb4, (hMp2.of_bl hb3).of_bl hb4, HZ3⟩
              case measure => simp [intOf]; omega
       · have hz' : (c0 != 0) = true := by simpa using hz
         have HF := Lib.hid (show ckS (l, rd) = c0 by
          have h6 := HC0.out (l.take k) hz; have h7 : enG [] l = c0 := by rw [HS.out, h6, if_pos hz]
          rw [HM1.out (by rw [h7]; exact hz), h7])
         clear hz; go_wp2_with (go_at_call 23; (with_reducible refine (CK.out _ hEc hMc).mono ?_); rintro e w3 ⟨rfl, hb3⟩); go_ret; exact ⟨ret_int HF.out.symm, hblw.trans hb3⟩
    · have HF := Lib.hid (show enG [] l = 0 by rw [HP.out, List.drop_of_length_le (by omega)]; rfl); have HF2 := Lib.hid (HM2.out HF.out); clear hA; go_wp2_with (go_at_call 60; (with_reducible refine (HRD.out _ hbw).mono ?_); rintro e w3 ⟨rfl, hb3⟩); go_ret; exact ⟨ret_int (by rw [HF2.out]), hbw.trans hb3⟩
end Go.Proofs.YtamdlihgecpbkaaGreatDoor

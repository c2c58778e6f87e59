/- Trees: kinds of elements; how many stay open. -/
import Derived.Test.YtlhodanmccpkdaaGreatDoorGrpC
namespace Go.Proofs.YtlhodanmccpkdaaGreatDoor
open Go.RowKit

theorem empty_c (n : Nm) (w : World) : Calls Tryz.prog 31 #[.string ⟨n.toArray⟩] w fun e w' => e = .returned (.bool (emptyN n)) ∧ w = w' := by
  go_enter Tryz.func31, Tryz.ntmps31
  go_wp2
  all_goals (go_ret; exact ⟨ret_bool (by rw [Bool.eq_iff_iff]; simp [emptyN, sBr, sHr, sImg, *] <;> exact decide_eq_true_iff.symm), rfl⟩)
theorem wall_c (n : Nm) (w : World) : Calls Tryz.prog 53 #[.string ⟨n.toArray⟩] w fun e w' => e = .returned (.bool (wallN n)) ∧ w = w' := by
  go_enter Tryz.func53, Tryz.ntmps53
  go_wp2
  all_goals (go_ret; exact ⟨ret_bool (by rw [Bool.eq_iff_iff]; simp [wallN, sUl, sOl, sLi, sBq, *] <;> exact decide_eq_true_iff.symm), rfl⟩)
theorem block_c (n : Nm) (w : World) : Calls Tryz.prog 52 #[.string ⟨n.toArray⟩] w fun e w' => e = .returned (.bool (blkN n)) ∧ w = w' := by
  go_enter Tryz.func52, Tryz.ntmps52
  go_wp2_with (go_at_call 53; (with_reducible refine (wall_c _ _).mono ?_); rintro e w' ⟨rfl, rfl⟩)
  all_goals (go_ret; exact ⟨ret_bool (by rw [Bool.eq_iff_iff]; simp [blkN, sP, sHr, *] <;> exact decide_eq_true_iff.symm), rfl⟩)
theorem ulol_c (n : Nm) (w : World) : Calls Tryz.prog 54 #[.string ⟨n.toArray⟩] w fun e w' => e = .returned (.bool (ulolN n)) ∧ w = w' := by
  go_enter Tryz.func54, Tryz.ntmps54
  go_wp2
  all_goals (go_ret; exact ⟨ret_bool (by rw [Bool.eq_iff_iff]; simp [ulolN, sUl, sOl, *] <;> exact decide_eq_true_iff.symm), rfl⟩)
theorem never_c (n : Nm) (w : World) : Calls Tryz.prog 42 #[.string ⟨n.toArray⟩] w fun e w' => e = .returned (.bool false) ∧ w = w' := by
  go_enter Tryz.func42, Tryz.ntmps42
  go_wp2
  go_ret
  exact ⟨rfl, rfl⟩
/-- A function that tells of a name. -/
structure DoN (N : Nat) (p : Nm → Bool) : Prop where
  cf : ∀ (args : Array Value) (W : World), Sem.run Tryz.prog (callFunc N args) W = .ok (.enter N args) W
  go : ∀ (n : Nm) W, Calls Tryz.prog N #[.string ⟨n.toArray⟩] W fun e w' => e = .returned (.bool (p n)) ∧ W = w'
theorem do_wall : DoN 53 wallN := ⟨fun args W => by simp [callFunc, go_sem, Tryz.func53, Tryz.f53], wall_c⟩
theorem do_ulol : DoN 54 ulolN := ⟨fun args W => by simp [callFunc, go_sem, Tryz.func54, Tryz.f54], ulol_c⟩
theorem do_never : DoN 42 (fun _ => false) := ⟨fun args W => by simp [callFunc, go_sem, Tryz.func42, Tryz.f42], never_c⟩
/-- A slice reads as these texts. -/
def StS (w : World) (v : Value) (l : List Nm) : Prop :=
  ∃ ao cap, v = .slice ao l.length cap ∧ l.length ≤ cap ∧ ∀ i (h : i < l.length), ∃ g o, ao = some ⟨g, o, none⟩ ∧ g < w.heap.size ∧ w.cell? ⟨g, o + i, none⟩ = some (.string ⟨l[i].toArray⟩)
theorem StS.of_bl {w w' : World} {v : Value} {l : List Nm} (h : StS w v l) (hb : Bl w w') : StS w' v l := by
  obtain ⟨ao, cap, rfl, hc, h⟩ := h
  refine ⟨ao, cap, rfl, hc, fun i hi => ?_⟩
  obtain ⟨g, o, h1, h2, h3⟩ := h i hi
  exact ⟨g, o, h1, Nat.lt_of_lt_of_le h2 (Below.size hb), (hb.cells.1 g _ h2).trans h3⟩
/-- The place of the innermost one; -1: there is none. -/
def abI (nm : Nm) (p : Nm → Bool) (l : List Nm) : Int := match abv nm p l.reverse with | some i => i | none => -1
theorem abI_nil (nm : Nm) (p : Nm → Bool) : abI nm p [] = -1 := rfl
theorem abI_snoc (nm : Nm) (p : Nm → Bool) (l : List Nm) (x : Nm) : abI nm p (l ++ [x]) = if x = nm then (l.length : Int) else if p x then -1 else abI nm p l := by
  unfold abI
  rw [List.reverse_append]
  simp only [List.reverse_singleton, List.singleton_append, abv, List.length_reverse]
  by_cases h : x = nm
  · rw [if_pos h, if_pos h]
  · rw [if_neg h, if_neg h]
    by_cases h2 : p x = true
    · rw [if_pos h2, if_pos h2]
    · rw [if_neg h2, if_neg h2]
theorem str_eq (a b : Nm) : decide ((⟨a.toArray⟩ : ByteArray) = ⟨b.toArray⟩) = decide (a = b) := by simp
set_option maxHeartbeats 1000000 in
theorem above_c (N : Nat) (p : Nm → Bool) (hD : DoN N p) (l : List Nm) (v : Value) (nm : Nm) (hl : l.length ≤ 1099511627776) (w : World) (hA : StS w v l) :
    Calls Tryz.prog 41 #[v, .string ⟨nm.toArray⟩, .func (.func N) #[] #[]] w fun e w' => e = .returned (.int .i64 (abI nm p l)) ∧ w = w' := by
  obtain ⟨ao, cap, rfl, hc, hA⟩ := hA
  have hcf := hD.cf
  have HD := Lib.hid hD.go
  clear hD
  go_enter Tryz.func41, Tryz.ntmps41
  go_wp2
  go_loop [7] (fun i => ∃ k : Int, -1 ≤ k ∧ k < l.length ∧ i = .int .i64 k ∧ Hid (abI nm p l = abI nm p (l.take (k + 1).toNat))) (fun i => (intOf i + 1).toNat)
  case atStart => exact ⟨(l.length : Int) - 1, by omega, by omega, rfl, Lib.hid (by rw [show ((l.length : Int) - 1 + 1).toNat = l.length by omega, List.take_length])⟩
  case round =>
    obtain ⟨k, hk1, hk2, rfl, HP⟩ := hrel
    by_cases h0 : 0 ≤ k
    · obtain ⟨j, rfl⟩ : ∃ j : Nat, k = (j : Int) := ⟨k.toNat, by omega⟩
      have hj : j < l.length := by omega
      obtain ⟨g, o, rfl, hg, h1⟩ := hA j hj
      have HE := Lib.hid (show abI nm p l = if l[j] = nm then (j : Int) else if p l[j] then -1 else abI nm p (l.take j) by
        rw [HP.out, show ((j : Int) + 1).toNat = j + 1 by omega, take_snoc l j hj, abI_snoc, List.length_take, Nat.min_eq_left (by omega)])
      clear hA HP hk1
      by_cases he : l[j] = nm
      · have HF := Lib.hid (show abI nm p l = j by rw [HE.out, if_pos he])
        have he' : (l[j] == nm) = true := by simpa using he
        clear he
        go_wp2
        go_ret
        exact ⟨ret_int HF.out.symm, rfl⟩
      · have HF := Lib.hid (show abI nm p l = if p l[j] then -1 else abI nm p (l.take j) by rw [HE.out, if_neg he])
        have he' : (l[j] == nm) = false := by simpa using he
        have HG := Lib.hid (HD.out l[j] w)
        clear he
        cases hp : p l[j]
        · have HI := Lib.hid (show abI nm p l = abI nm p (l.take j) by rw [HF.out, hp]; rfl)
          rw [hp] at HG
          clear hp
          go_wp2_with (with_reducible refine HG.out.mono ?_; rintro e w' ⟨rfl, rfl⟩)
          go_round
          case rel => exact ⟨(j : Int) - 1, by omega, by omega, rfl, Lib.hid (by rw [HI.out, show ((j : Int) - 1 + 1).toNat = j by omega])⟩
          case measure => simp [intOf] <;> omega
        · have HI := Lib.hid (show abI nm p l = -1 by rw [HF.out, hp]; rfl)
          rw [hp] at HG
          clear hp
          go_wp2_with (with_reducible refine HG.out.mono ?_; rintro e w' ⟨rfl, rfl⟩)
          go_ret
          exact ⟨ret_int HI.out.symm, rfl⟩
    · have HF := Lib.hid (show abI nm p l = -1 by rw [HP.out, show (k + 1).toNat = 0 by omega]; rfl)
      clear hA HP
      go_wp2
      go_ret
      exact ⟨ret_int HF.out.symm, rfl⟩
end Go.Proofs.YtlhodanmccpkdaaGreatDoor

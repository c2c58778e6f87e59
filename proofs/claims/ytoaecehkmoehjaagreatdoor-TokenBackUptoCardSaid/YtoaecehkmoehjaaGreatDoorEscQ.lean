/- Signs that are put are taken as they were: plain laws. -/
import Derived.Test.YtoaecehkmoehjaaGreatDoorEscP
namespace Go.Proofs.YtoaecehkmoehjaaGreatDoor
open Go.RowKit

theorem sgn_amp (r : List UInt8) : sgn (38 :: 97 :: 109 :: 112 :: 59 :: r) = ([38], 5, true) := rfl
theorem sgn_lt (r : List UInt8) : sgn (38 :: 108 :: 116 :: 59 :: r) = ([60], 4, true) := rfl
theorem sgn_gt (r : List UInt8) : sgn (38 :: 103 :: 116 :: 59 :: r) = ([62], 4, true) := rfl
theorem sgn_quot (r : List UInt8) : sgn (38 :: 113 :: 117 :: 111 :: 116 :: 59 :: r) = ([34], 6, true) := rfl
theorem putc_38 : putc 38 = [38, 97, 109, 112, 59] := rfl
theorem putc_60 : putc 60 = [38, 108, 116, 59] := rfl
theorem putc_62 : putc 62 = [38, 103, 116, 59] := rfl
theorem putc_34 : putc 34 = [38, 113, 117, 111, 116, 59] := rfl
theorem spc_cases {c : UInt8} (h : spc c = true) : c = 38 ∨ c = 60 ∨ c = 62 ∨ c = 34 := by
  simp only [spc, Bool.or_eq_true, beq_iff_eq] at h
  rcases h with ((h | h) | h) | h <;> simp [h]
theorem Tk_put_app (s r : List UInt8) : Tk (PutL s ++ r) = (s ++ (Tk r).1, (Tk r).2) := by
  induction s with
  | nil => rfl
  | cons c s ih =>
    rw [show PutL (c :: s) = putc c ++ PutL s from rfl, List.append_assoc]
    cases hc : spc c
    · rw [putc_plain hc, List.singleton_append, Tk_plain _ _ (by rintro rfl; exact absurd hc (by decide)), ih]; rfl
    · rcases spc_cases hc with rfl | rfl | rfl | rfl
      · rw [putc_38]; simp only [List.cons_append, List.nil_append]; rw [Tk_amp, sgn_amp]
        simp only [show 5 - 1 = 4 from rfl, List.drop_succ_cons, List.drop_zero, ih, Bool.true_and, List.cons_append, List.nil_append]
      · rw [putc_60]; simp only [List.cons_append, List.nil_append]; rw [Tk_amp, sgn_lt]
        simp only [show 4 - 1 = 3 from rfl, List.drop_succ_cons, List.drop_zero, ih, Bool.true_and, List.cons_append, List.nil_append]
      · rw [putc_62]; simp only [List.cons_append, List.nil_append]; rw [Tk_amp, sgn_gt]
        simp only [show 4 - 1 = 3 from rfl, List.drop_succ_cons, List.drop_zero, ih, Bool.true_and, List.cons_append, List.nil_append]
      · rw [putc_34]; simp only [List.cons_append, List.nil_append]; rw [Tk_amp, sgn_quot]
        simp only [show 6 - 1 = 5 from rfl, List.drop_succ_cons, List.drop_zero, ih, Bool.true_and, List.cons_append, List.nil_append]
theorem Tk_put (s : List UInt8) : Tk (PutL s) = (s, true) := by
  have := Tk_put_app s []
  rw [List.append_nil] at this; rw [this]; simp [Tk_nil]
theorem PutL_no (s : List UInt8) (c : UInt8) (h : c ∈ PutL s) : c ≠ 60 ∧ c ≠ 62 ∧ c ≠ 34 := by
  obtain ⟨x, _, hx⟩ := List.mem_flatMap.1 h
  cases hc : spc x
  · rw [putc_plain hc, List.mem_singleton] at hx
    subst hx
    refine ⟨?_, ?_, ?_⟩ <;> (rintro rfl; exact absurd hc (by decide))
  · rcases spc_cases hc with rfl | rfl | rfl | rfl
    · rw [putc_38] at hx; clear h; revert c; decide
    · rw [putc_60] at hx; clear h; revert c; decide
    · rw [putc_62] at hx; clear h; revert c; decide
    · rw [putc_34] at hx; clear h; revert c; decide
end Go.Proofs.YtoaecehkmoehjaaGreatDoor

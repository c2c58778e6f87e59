/- Tokens: names: program and reference. -/
import Derived.Test.YtkacjnifhmgeiaaGreatDoorTokB
namespace Go.Proofs.YtkacjnifhmgeiaaGreatDoor
open Go.RowKit

/-- A name, byte by byte. -/
def posN (k : Nat) (c : UInt8) : Bool := if k = 0 then lwr c else nmc c
theorem posN_iff (k : Nat) (c : UInt8) : posN k c = true ↔ (97 ≤ c.toNat ∧ c.toNat ≤ 122) ∨ (k ≠ 0 ∧ (48 ≤ c.toNat ∧ c.toNat ≤ 57 ∨ c.toNat = 45)) := by
  unfold posN
  by_cases h : k = 0
  · simp [h, lwr]
  · simp [h, nmc, lwr, dgt]; omega
theorem posN_no {k : Nat} {c : UInt8} (h : ¬ ((97 ≤ c.toNat ∧ c.toNat ≤ 122) ∨ (k ≠ 0 ∧ (48 ≤ c.toNat ∧ c.toNat ≤ 57 ∨ c.toNat = 45)))) : posN k c = false := by
  rw [← posN_iff] at h; simpa using h
theorem isNm_pos (l : List UInt8) (hp : ∀ i (h : i < l.length), posN i l[i] = true) (hl : l.length ≤ 20) (h0 : l ≠ []) : isNm l = true := by
  cases l with
  | nil => exact absurd rfl h0
  | cons c r =>
    have h1 := hp 0 (by simp)
    simp only [List.getElem_cons_zero, posN, if_true] at h1
    simp only [isNm, h1, Bool.true_and, Bool.and_eq_true, decide_eq_true_eq, List.all_eq_true]
    refine ⟨fun x hx => ?_, by simpa using hl⟩
    obtain ⟨i, hi, rfl⟩ := List.mem_iff_getElem.1 hx
    have := hp (i + 1) (by simpa using hi)
    simpa [posN] using this
theorem isNm_no (l : List UInt8) (i : Nat) (h : i < l.length) (hp : posN i l[i] = false) : isNm l = false := by
  cases l with
  | nil => rfl
  | cons c r =>
    cases i with
    | zero => simp only [List.getElem_cons_zero, posN, if_true] at hp; simp [isNm, hp]
    | succ i =>
      simp only [List.getElem_cons_succ, posN] at hp
      have : r.all nmc = false := by rw [List.all_eq_false]; exact ⟨r[i]'(by simpa using h), List.getElem_mem _, by simpa using hp⟩
      simp [isNm, this]
theorem isNm_long (l : List UInt8) (h : 20 < l.length ∨ l = []) : isNm l = false := by
  cases l with
  | nil => rfl
  | cons c r =>
    rcases h with h | h
    · simp only [List.length_cons] at h
      have : ¬ r.length ≤ 19 := by omega
      simp [isNm, this]
    · cases h

end Go.Proofs.YtkacjnifhmgeiaaGreatDoor

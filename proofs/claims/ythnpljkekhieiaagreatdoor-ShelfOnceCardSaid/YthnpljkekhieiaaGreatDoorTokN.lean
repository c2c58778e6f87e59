/- Tokens: names: program and reference. -/
import Derived.Test.YthnpljkekhieiaaGreatDoorGrpA
namespace Go.Proofs.YthnpljkekhieiaaGreatDoor
open Go.RowKit

/-- A name, byte by byte. -/
def posN (k : Nat) (c : UInt8) : Bool := if k = 0 then lwr c else nmc c
theorem posN_iff (k : Nat) (c : UInt8) : posN k c = true ↔ (97 ≤ c.toNat ∧ c.toNat ≤ 122) ∨ (k ≠ 0 ∧ (48 ≤ c.toNat ∧ c.toNat ≤ 57 ∨ c.toNat = 45)) := by
  unfold posN
  by_cases h : k = 0
  · simp [h, lwr]
  · simp [h, nmc, lwr, dgt]; omega
theorem posN_no {k : Nat} {c : UInt8} (h : ¬ ((97 ≤ c.toNat ∧ c.toNat ≤ 122) ∨ (k ≠ 0 ∧ (48 ≤ c.toNat ∧ c.toNat ≤ 57 ∨ c.toNat = 45)))) : posN k c = false := by
  rw [← posN_iff] at h; simpa using h
theorem isNm_pos (l : List UInt8) (hp : ∀ i (h : i < l.length), posN i l[i] = true) (hl : l.length ≤ 20) (h0 : l ≠ []) : isNm l = true := by
  cases l with
  | nil => exact absurd rfl h0
  | cons c r =>
    have h1 := hp 0 (by simp)
    simp only [List.getElem_cons_zero, posN, if_true] at h1
    simp only [isNm, h1, Bool.true_and, Bool.and_eq_true, decide_eq_true_eq, List.all_eq_true]
    refine ⟨fun x hx => ?_, by simpa using hl⟩
    obtain ⟨i, hi, rfl⟩ := List.mem_iff_getElem.1 hx
    have := hp (i + 1) (by simpa using hi)
    simpa [posN] using this
theorem isNm_no (l : List UInt8) (i : Nat) (h : i < l.length) (hp : posN i l[i] = false) : isNm l = false := by
  cases l with
  | nil => rfl
  | cons c r =>
    cases i with
    | zero => simp only [List.getElem_cons_zero, posN, if_true] at hp; simp [isNm, hp]
    | succ i =>
      simp only [List.getElem_cons_succ, posN] at hp
      have : r.all nmc = false := by rw [List.all_eq_false]; exact ⟨r[i]'(by simpa using h), List.getElem_mem _, by simpa using hp⟩
      simp [isNm, this]
theorem isNm_long (l : List UInt8) (h : 20 < l.length ∨ l = []) : isNm l = false := by
  cases l with
  | nil => rfl
  | cons c r =>
    rcases h with h | h
    · simp only [List.length_cons] at h
      have : ¬ r.length ≤ 19 := by omega
      simp [isNm, this]
    · cases h

set_option maxHeartbeats 1000000 in
theorem name_c (l : List UInt8) (hl : l.length ≤ 4611686018427387904) (w : World) : Calls Tryz.prog 166 #[.string ⟨l.toArray⟩] w fun e w' => e = .returned (.bool (isNm l)) ∧ w = w' := by
  go_enter Tryz.func166, Tryz.ntmps166
  go_wp2
  go_loop [7] (fun i => ∃ k : Nat, k ≤ l.length ∧ i = .int .i64 k ∧ Hid (∀ i (h : i < l.length), i < k → posN i l[i] = true)) (fun i => l.length - (intOf i).toNat)
  case atStart => exact ⟨0, Nat.zero_le _, rfl, Lib.hid (fun i _ h => by omega)⟩
  case round =>
    obtain ⟨k, hk, rfl, HP⟩ := hrel
    by_cases hlt : k < l.length
    · have hc := u8_lt l[k]
      have hcase : ((97 : Int) ≤ (l[k].toNat : Int) ∧ (l[k].toNat : Int) ≤ 122) ∨ ((l[k].toNat : Int) < 97 ∧ ((k : Int) == 0) = true) ∨ ((122 : Int) < (l[k].toNat : Int) ∧ ((k : Int) == 0) = true) ∨ (((l[k].toNat : Int) < 48 ∧ ((l[k].toNat : Int) != 45) = true) ∧ ((k : Int) == 0) = false) ∨ ((l[k].toNat : Int) = 45 ∧ ((k : Int) == 0) = false) ∨ (((48 : Int) ≤ (l[k].toNat : Int) ∧ (l[k].toNat : Int) ≤ 57) ∧ ((k : Int) == 0) = false) ∨ (((57 : Int) < (l[k].toNat : Int) ∧ (l[k].toNat : Int) < 97) ∧ ((k : Int) == 0) = false) ∨ ((122 : Int) < (l[k].toNat : Int) ∧ ((k : Int) == 0) = false) := by
        simp only [beq_iff_eq, beq_eq_false_iff_ne, bne_iff_ne, ne_eq]; omega
      rcases hcase with ⟨c1, c2⟩ | ⟨c1, c2⟩ | ⟨c1, c2⟩ | ⟨⟨c1, c2⟩, c3⟩ | ⟨c1, c2⟩ | ⟨⟨c1, c2⟩, c3⟩ | ⟨⟨c1, c2⟩, c3⟩ | ⟨c1, c2⟩
      all_goals
        have HQ := Lib.hid (And.intro c1 c2)
        try have HQ3 := Lib.hid c3
        go_wp2
        all_goals first
          | (exfalso
             simp only [Bool.not_eq_false', Bool.not_eq_true', decide_eq_true_eq, decide_eq_false_iff_not, bne_eq_false_iff_eq, bne_iff_ne, beq_iff_eq, beq_eq_false_iff_ne, ne_eq] at *
             omega)
          | (go_round
             case rel =>
               refine ⟨k + 1, by omega, by go_num, Lib.hid (fun i h hi => ?_)⟩
               by_cases e : i = k
               · subst e
                 have hq := HQ.out
                 try have hq3 := HQ3.out
                 try simp only [beq_eq_false_iff_ne, ne_eq] at hq
                 try simp only [beq_eq_false_iff_ne, ne_eq] at hq3
                 rw [posN_iff]; omega
               · exact HP.out i h (by omega)
             case measure => simp [intOf]; omega)
          | (go_ret
             have hq := HQ.out
             try have hq3 := HQ3.out
             try simp only [beq_iff_eq, beq_eq_false_iff_ne, bne_iff_ne, ne_eq] at hq
             try simp only [beq_eq_false_iff_ne, ne_eq] at hq3
             exact ⟨ret_bool (isNm_no l k hlt (posN_no (by omega))).symm, rfl⟩)
    · by_cases h0 : l = []
      · subst h0
        go_wp2
        go_ret
        exact ⟨rfl, rfl⟩
      · have hne : l.isEmpty = false := by cases l <;> simp_all
        have HE := Lib.hid h0
        by_cases h20 : l.length ≤ 20
        · have HN := Lib.hid (isNm_pos l (fun i h => HP.out i h (by omega)) h20 h0)
          have h20' : (l.length : Int) ≤ 20 := by omega
          go_wp2
          go_ret
          exact ⟨by rw [HN.out]; exact ret_bool (by have := HE.out; simp [] <;> omega), rfl⟩
        · have HN := Lib.hid (isNm_long l (Or.inl (by omega)))
          go_wp2
          go_ret
          exact ⟨by rw [HN.out]; exact ret_bool (by have := HE.out; simp [] <;> omega), rfl⟩
end Go.Proofs.YthnpljkekhieiaaGreatDoor

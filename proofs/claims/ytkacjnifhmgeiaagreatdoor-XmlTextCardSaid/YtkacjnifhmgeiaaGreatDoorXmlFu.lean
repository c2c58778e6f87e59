/- Documents: plain functions, a step at a time. -/
import Derived.Test.YtkacjnifhmgeiaaGreatDoorXmlLaw
namespace Go.Proofs.YtkacjnifhmgeiaaGreatDoor
open Go.RowKit

theorem miF_eq : ∀ n t, t.length ≤ n → ∀ k j, t.length ≤ k → t.length ≤ j → miF k t = miF j t := by
  intro n
  induction n with
  | zero =>
    intro t ht k j _ _
    obtain rfl := List.eq_nil_of_length_eq_zero (Nat.le_zero.1 ht)
    have h : ∀ k, miF k [] = .ok [] := fun k => by cases k <;> rfl
    rw [h, h]
  | succ n ih =>
    intro t ht k j hk hj
    cases t with
    | nil =>
      have h : ∀ k, miF k [] = .ok [] := fun k => by cases k <;> rfl
      rw [h, h]
    | cons c r =>
      obtain ⟨k, rfl⟩ : ∃ m, k = m + 1 := ⟨k - 1, by simp only [List.length_cons] at hk; omega⟩
      obtain ⟨j, rfl⟩ : ∃ m, j = m + 1 := ⟨j - 1, by simp only [List.length_cons] at hj; omega⟩
      unfold miF
      split
      · exact ih _ (by omega) _ _ (by omega) (by omega)
      · cases e : asX (c :: r) with
        | error e' => rfl
        | ok o =>
          cases o with
          | none => rfl
          | some u => have := asX_len e; exact ih _ (by omega) _ _ (by omega) (by omega)
theorem miX_ws {t : List UInt8} (h : (wsX t).length < t.length) : miX t = miX (wsX t) := by
  obtain ⟨m, hm⟩ : ∃ m, t.length = m + 1 := ⟨t.length - 1, by omega⟩
  unfold miX
  rw [hm]
  conv => lhs; unfold miF
  rw [if_pos h]
  exact miF_eq _ _ (Nat.le_refl _) _ _ (by omega) (Nat.le_refl _)
theorem miX_as {t : List UInt8} (h : ¬ (wsX t).length < t.length) : miX t = match asX t with
    | .error e => .error e
    | .ok none => .ok t
    | .ok (some r) => miX r := by
  cases t with
  | nil => rfl
  | cons c r =>
    unfold miX
    rw [show (c :: r).length = r.length + 1 from rfl]
    conv => lhs; unfold miF
    rw [if_neg h]
    cases e : asX (c :: r) with
    | error e' => rfl
    | ok o =>
      cases o with
      | none => rfl
      | some u => have := asX_len e; exact miF_eq _ _ (Nat.le_refl _) _ _ (by simp only [List.length_cons] at this; omega) (Nat.le_refl _)
theorem wsX_twice (t : List UInt8) : wsX (wsX t) = wsX t := by
  unfold wsX
  induction t with
  | nil => rfl
  | cons c r ih =>
    by_cases h : blk c = true
    · simp [h, ih]
    · simp [h]
/-- White bytes are passed, and it is seen whether there were some. -/
theorem miX_as2 (t : List UInt8) (h : (wsX t).length = t.length) : wsX t = t := by
  have h2 := (List.dropWhile_suffix blk (l := t))
  exact h2.eq_of_length h

theorem asF_eq (j : Nat) (t : List UInt8) (out : List Atr) (h : t.length ≤ j) : asF j t out =
    if (wsX t).length < t.length ∧ ((wsX t).head?.map tiB1).getD false = true then
      match tiX (wsX t) with
      | .error e => .error e
      | .ok (n, t1) => match vaX t1 with
        | .error e => .error e
        | .ok (v, r) => if atX (out ++ [(n, v)]) ≠ 0 then .error 6 else asF (j - 1) r (out ++ [(n, v)])
    else .ok (out, wsX t) := by
  cases j with
  | zero =>
    obtain rfl := List.eq_nil_of_length_eq_zero (Nat.le_zero.1 h)
    rfl
  | succ j => rfl

/-- A byte of a title, at its place. -/
def tiBy (f : Bool) (c : UInt8) : Bool := if f then tiB1 c else tiB c
theorem isTi_pos (l : List UInt8) (hp : ∀ i (h : i < l.length), tiBy (decide (i = 0)) l[i] = true) (hl : l.length ≤ 20) (h0 : l ≠ []) : isTi l = true := by
  cases l with
  | nil => exact absurd rfl h0
  | cons c r =>
    have h1 := hp 0 (by simp)
    simp only [List.getElem_cons_zero, tiBy, decide_true, if_true] at h1
    simp only [isTi, h1, Bool.true_and, Bool.and_eq_true, decide_eq_true_eq, List.all_eq_true]
    refine ⟨fun x hx => ?_, by simpa using hl⟩
    obtain ⟨i, hi, rfl⟩ := List.mem_iff_getElem.1 hx
    have := hp (i + 1) (by simpa using hi)
    simpa [tiBy] using this
theorem isTi_no (l : List UInt8) (i : Nat) (h : i < l.length) (hp : tiBy (decide (i = 0)) l[i] = false) : isTi l = false := by
  cases l with
  | nil => rfl
  | cons c r =>
    cases i with
    | zero => simp only [List.getElem_cons_zero, tiBy, decide_true, if_true] at hp; simp [isTi, hp]
    | succ i =>
      have hi : i < r.length := by simpa using h
      have hp' : tiB r[i] = false := by simpa [tiBy] using hp
      have : r.all tiB = false := by rw [List.all_eq_false]; exact ⟨r[i], List.getElem_mem _, by simpa using hp'⟩
      simp [isTi, this]
theorem isTi_long (l : List UInt8) (h : 20 < l.length ∨ l = []) : isTi l = false := by
  cases l with
  | nil => rfl
  | cons c r =>
    rcases h with h | h
    · simp only [List.length_cons] at h
      have : ¬ r.length ≤ 19 := by omega
      simp [isTi, this]
    · cases h
theorem tiS_cons (c : UInt8) (r : List UInt8) : tiS (c :: r) = if tiB1 c then (c :: r.takeWhile tiB, r.dropWhile tiB) else ([], c :: r) := rfl
theorem tiS_app (t : List UInt8) : (tiS t).1 ++ (tiS t).2 = t := by
  cases t with
  | nil => rfl
  | cons c r =>
    rw [tiS_cons]
    split
    · simp [List.takeWhile_append_dropWhile]
    · rfl
theorem tiS_in (t : List UInt8) (j : Nat) (h : j < (tiS t).1.length) : ∃ h : j < t.length, tiBy (decide (j = 0)) t[j] = true := by
  cases t with
  | nil => simp [tiS] at h
  | cons c r =>
    rw [tiS_cons] at h
    split at h
    · rename_i hc
      cases j with
      | zero => exact ⟨by simp, by simpa [tiBy] using hc⟩
      | succ j =>
        simp only [List.length_cons, Nat.add_lt_add_iff_right] at h
        have h2 : (r.takeWhile tiB).length ≤ r.length := (List.takeWhile_prefix tiB).length_le
        refine ⟨by simp only [List.length_cons]; omega, ?_⟩
        have h3 : (r.takeWhile tiB)[j] = r[j]'(by omega) := by
          have := List.takeWhile_prefix tiB (l := r)
          exact this.getElem h
        have h4 : tiB (r.takeWhile tiB)[j] = true := mem_tw (List.getElem_mem h)
        rw [h3] at h4
        simpa [tiBy] using h4
    · simp at h
theorem tiS_out (t : List UInt8) (h : (tiS t).1.length < t.length) : tiBy (decide ((tiS t).1.length = 0)) t[(tiS t).1.length] = false := by
  cases t with
  | nil => simp at h
  | cons c r =>
    by_cases hc : tiB1 c = true
    · have e : (tiS (c :: r)).1 = c :: r.takeWhile tiB := by rw [tiS_cons, if_pos hc]
      simp only [e] at h ⊢
      simp only [List.length_cons, Nat.add_lt_add_iff_right] at h
      have h5 := List.takeWhile_append_dropWhile (p := tiB) (l := r)
      have h6 : ∃ d u, r.dropWhile tiB = d :: u ∧ tiB d = false := by
        cases hd : r.dropWhile tiB with
        | nil => rw [hd, List.append_nil] at h5; rw [h5] at h; omega
        | cons d u =>
          refine ⟨d, u, rfl, ?_⟩
          have := List.head_dropWhile_not tiB (l := r) (by rw [hd]; simp)
          simpa [hd] using this
      obtain ⟨d, u, hd, hdb⟩ := h6
      have h7 : r[(r.takeWhile tiB).length]'h = d := by
        rw [hd] at h5
        have h8 : (r.takeWhile tiB ++ d :: u)[(r.takeWhile tiB).length]? = some d := by simp
        rw [h5, List.getElem?_eq_getElem h] at h8
        exact Option.some.inj h8
      simp [tiBy, h7, hdb]
    · have e : (tiS (c :: r)).1 = [] := by rw [tiS_cons, if_neg hc]
      simp only [e]
      simpa [tiBy] using hc
end Go.Proofs.YtkacjnifhmgeiaaGreatDoor

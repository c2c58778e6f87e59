/- Tokens: memory; kinds of bytes, small letters, names: program and reference. · Tokens: names: program and reference. -/
import Derived.Test.YtkacjnifhmgeiaaGreatDoorGrpD
import Derived.Test.YtkacjnifhmgeiaaGreatDoorGrpC
import Derived.Laws.AppendOwn
import Derived.OwnWalk
import Derived.Deep.QuietTactic
import Derived.BigQuiet
import Derived.RegionTactic
namespace Go.Proofs.YtkacjnifhmgeiaaGreatDoor
open Go.RowKit

theorem gb_refl (b : Option Nat) (w : World) : w.grownBy w b := ⟨rfl, rfl, rfl, Nat.le_refl _, fun _ _ _ => rfl⟩
theorem gb_trans {b : Option Nat} {x y z : World} (h : x.grownBy y b) (k : y.grownBy z b) : x.grownBy z b :=
  ⟨k.os.trans h.os, k.tape.trans h.tape, k.output.trans h.output, Nat.le_trans h.size k.size, fun i hi hne => (k.block i (Nat.lt_of_lt_of_le hi h.size) hne).trans (h.block i hi hne)⟩
theorem gb_bl {b : Option Nat} {w w' : World} (h : Bl w w') : w.grownBy w' b := ⟨Below.os h, Below.tape h, Below.output h, Below.size h, fun k hk _ => Below.block h k hk⟩
theorem gb_set {b : Nat} {x w : World} (h : x.grownBy w (some b)) (o : Nat) (v : Value) : x.grownBy (w.setCell ⟨b, o, none⟩ v) (some b) :=
  ⟨h.os, h.tape, h.output, by simpa using h.size, fun k hk hne => (Below.heap_setCell w ⟨b, o, none⟩ v k (by rintro rfl; exact hne rfl)).trans (h.block k hk hne)⟩
theorem gb_drewN {b : Option Nat} {x w : World} (h : x.grownBy w b) (n : Nat) : x.grownBy (w.drewN n) b := gb_trans h (gb_bl ((Bl.refl _).drewN n))
theorem gb_qt {b : Option Nat} {w w' : World} (h : Qt w w') : w.grownBy w' b := gb_bl h.bl
theorem bl_of_gb {w w' : World} (h : w.grownBy w' none) : Bl w w' := ⟨h.os, h.tape, h.output, h.size, fun k hk => h.block k hk (by simp)⟩

def atOf (b : Nat) (w : World) : Nat := match w.cell? ⟨b, 1, none⟩ with | some v => (intOf v).toNat | none => 0
theorem isLetter_c (c : UInt8) (w : World) : Calls Tryz.prog 46 #[.int .u8 (c.toNat : Int)] w fun e w' => e = .returned (.bool (ltr c)) ∧ w = w' := by
  have := u8_lt c
  go_enter Tryz.func46, Tryz.ntmps46
  go_wp2_with (go_at_call 65; refine (between_c _ _ _ _).mono ?_; rintro e w' ⟨rfl, rfl⟩)
  all_goals
    go_ret
    exact ⟨ret_bool (by rw [Bool.eq_iff_iff]; simp [ltr, lwr]; omega), rfl⟩
end Go.Proofs.YtkacjnifhmgeiaaGreatDoor

namespace Go.Proofs.YtkacjnifhmgeiaaGreatDoor
open Go.RowKit

/-- A name, byte by byte. -/
def posN (k : Nat) (c : UInt8) : Bool := if k = 0 then lwr c else nmc c
theorem posN_iff (k : Nat) (c : UInt8) : posN k c = true ↔ (97 ≤ c.toNat ∧ c.toNat ≤ 122) ∨ (k ≠ 0 ∧ (48 ≤ c.toNat ∧ c.toNat ≤ 57 ∨ c.toNat = 45)) := by
  unfold posN
  by_cases h : k = 0
  · simp [h, lwr]
  · simp [h, nmc, lwr, dgt]; omega
theorem posN_no {k : Nat} {c : UInt8} (h : ¬ ((97 ≤ c.toNat ∧ c.toNat ≤ 122) ∨ (k ≠ 0 ∧ (48 ≤ c.toNat ∧ c.toNat ≤ 57 ∨ c.toNat = 45)))) : posN k c = false := by
  rw [← posN_iff] at h; simpa using h
theorem isNm_pos (l : List UInt8) (hp : ∀ i (h : i < l.length), posN i l[i] = true) (hl : l.length ≤ 20) (h0 : l ≠ []) : isNm l = true := by
  cases l with
  | nil => exact absurd rfl h0
  | cons c r =>
    have h1 := hp 0 (by simp)
    simp only [List.getElem_cons_zero, posN, if_true] at h1
    simp only [isNm, h1, Bool.true_and, Bool.and_eq_true, decide_eq_true_eq, List.all_eq_true]
    refine ⟨fun x hx => ?_, by simpa using hl⟩
    obtain ⟨i, hi, rfl⟩ := List.mem_iff_getElem.1 hx
    have := hp (i + 1) (by simpa using hi)
    simpa [posN] using this
theorem isNm_no (l : List UInt8) (i : Nat) (h : i < l.length) (hp : posN i l[i] = false) : isNm l = false := by
  cases l with
  | nil => rfl
  | cons c r =>
    cases i with
    | zero => simp only [List.getElem_cons_zero, posN, if_true] at hp; simp [isNm, hp]
    | succ i =>
      simp only [List.getElem_cons_succ, posN] at hp
      have : r.all nmc = false := by rw [List.all_eq_false]; exact ⟨r[i]'(by simpa using h), List.getElem_mem _, by simpa using hp⟩
      simp [isNm, this]
theorem isNm_long (l : List UInt8) (h : 20 < l.length ∨ l = []) : isNm l = false := by
  cases l with
  | nil => rfl
  | cons c r =>
    rcases h with h | h
    · simp only [List.length_cons] at h
      have : ¬ r.length ≤ 19 := by omega
      simp [isNm, this]
    · cases h

end Go.Proofs.YtkacjnifhmgeiaaGreatDoor

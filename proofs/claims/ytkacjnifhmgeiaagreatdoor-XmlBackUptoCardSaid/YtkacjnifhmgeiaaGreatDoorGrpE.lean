/- Tokens: the reader's small steps. · Tokens: the closures that tell kinds of bytes; need, begins, letterAt, to, Folded. · Tokens: the reader's steps, said by what is left of the text; begins, letterAt, to, Folded. -/
import Derived.Test.YtkacjnifhmgeiaaGreatDoorTokN
import Derived.Test.YtkacjnifhmgeiaaGreatDoorGrpB
import Derived.Test.YtkacjnifhmgeiaaGreatDoorEscJ
namespace Go.Proofs.YtkacjnifhmgeiaaGreatDoor
open Go.RowKit

def hd (p : UInt8 → Bool) : List UInt8 → Bool
  | [] => false
  | c :: _ => p c
theorem hd_drop (p : UInt8 → Bool) (s : List UInt8) (k : Nat) (h : k < s.length) : hd p (s.drop k) = p s[k] := by rw [List.drop_eq_getElem_cons h]; rfl
theorem hd_end (p : UInt8 → Bool) (s : List UInt8) (k : Nat) (h : s.length ≤ k) : hd p (s.drop k) = false := by rw [List.drop_eq_nil_of_le h]; rfl


/-- A closure that tells of a byte whether it is of a kind, in each world of a class. -/
structure Do (N : Nat) (cap : Array Value) (p : UInt8 → Bool) (I : World → Prop) : Prop where
  cf : ∀ (args : Array Value) (W : World), Sem.run Tryz.prog (callFunc N args) W = .ok (.enter N args) W
  go : ∀ (c : UInt8) W, I W → Calls Tryz.prog N (#[.int .u8 (c.toNat : Int)] ++ cap) W fun e w' => e = .returned (.bool (p c)) ∧ Qt W w'
  qt : ∀ W W', I W → Qt W W' → I W'

theorem tw_take {α : Type} (p : α → Bool) (l : List α) : l.take (l.takeWhile p).length = l.takeWhile p := (List.prefix_iff_eq_take.1 (List.takeWhile_prefix p)).symm
theorem tw_drop {α : Type} (p : α → Bool) (l : List α) : l.drop (l.takeWhile p).length = l.dropWhile p := by
  induction l with
  | nil => rfl
  | cons a l ih => simp only [List.takeWhile_cons, List.dropWhile_cons]; split <;> simp [ih]
theorem hd_in (p : UInt8 → Bool) (s : List UInt8) (k j : Nat) (h : j < ((s.drop k).takeWhile p).length) : hd p (s.drop (k + j)) = true ∧ k + j < s.length := by
  have h1 := tw_take p (s.drop k)
  have h2 : ((s.drop k).takeWhile p).length ≤ (s.drop k).length := (List.takeWhile_prefix p).length_le
  rw [List.length_drop] at h2
  have hlt : k + j < s.length := by omega
  refine ⟨?_, hlt⟩
  rw [hd_drop p s (k + j) hlt]
  have h3 : ((s.drop k).takeWhile p)[j] = s[k + j] := by
    have : ((s.drop k).take ((s.drop k).takeWhile p).length)[j]'(by rw [h1]; exact h) = s[k + j] := by simp
    rw [← this]; congr 1; exact h1.symm
  rw [← h3]; exact mem_tw (List.getElem_mem h)
theorem hd_out (p : UInt8 → Bool) (s : List UInt8) (k : Nat) : hd p (s.drop (k + ((s.drop k).takeWhile p).length)) = false := by
  rw [← List.drop_drop, tw_drop]
  induction s.drop k with
  | nil => rfl
  | cons a l ih =>
    rw [List.dropWhile_cons]
    cases h : p a
    · simp [hd, h]
    · simpa using ih

end Go.Proofs.YtkacjnifhmgeiaaGreatDoor

namespace Go.Proofs.YtkacjnifhmgeiaaGreatDoor
open Go.RowKit

def is61 (c : UInt8) : Bool := decide (c.toNat = 61)
def not60 (c : UInt8) : Bool := decide (c.toNat ≠ 60)
def isq (c : UInt8) : Bool := decide (c.toNat = 34) || decide (c.toNat = 39)
def Tr : World → Prop := fun _ => True

theorem Tr2 (b : Nat) : ∀ W u, Tr W → Tr (W.setCell ⟨b, 1, none⟩ u) := fun _ _ _ => trivial

end Go.Proofs.YtkacjnifhmgeiaaGreatDoor

namespace Go.Proofs.YtkacjnifhmgeiaaGreatDoor
open Go.RowKit

theorem sfx_drop {s t : List UInt8} (h : t <:+ s) : s.drop (s.length - t.length) = t := by
  obtain ⟨p, rfl⟩ := h
  simp
/-- The variable bytealg.MaxLen holds some number. -/
def ML (w : World) : Prop := ∃ m, 0 < w.heap.size ∧ w.cell? ⟨0, 0, none⟩ = some (.int .i64 m)
theorem ML.of_bl {w w' : World} (h : ML w) (hb : Bl w w') : ML w' := by
  obtain ⟨m, h1, h2⟩ := h
  exact ⟨m, Nat.lt_of_lt_of_le h1 (Below.size hb), (hb.cells.1 _ 0 h1).trans h2⟩
theorem ML.of_gb {w w' : World} {b : Nat} (h : ML w) (hg : w.grownBy w' (some b)) (hb : 0 < b) : ML w' := by
  obtain ⟨m, h1, h2⟩ := h
  exact ⟨m, Nat.lt_of_lt_of_le h1 hg.size, hg.cell h2 (by simp; omega)⟩
theorem find_c (l p : List UInt8) (hl : l.length ≤ 4294967280) (w : World) (hM : ML w) :
    Calls Tryz.prog 95 #[.string ⟨l.toArray⟩, .string ⟨p.toArray⟩] w fun e w' => e = .returned (.int .i64 (Lib.index l p)) ∧ w = w' := by
  obtain ⟨m, h1, h2⟩ := hM
  exact (Tryz.strings_Index ⟨l.toArray⟩ ⟨p.toArray⟩ m w (by simp [ByteArray.size]; omega) h2).mono fun _ _ ⟨he, hw⟩ => ⟨he, hw.symm⟩
theorem cutS_index (p : List UInt8) (hp : p ≠ []) : ∀ l : List UInt8, (Lib.index l p = -1 ∧ cutS p l = none) ∨ (∃ i : Nat, Lib.index l p = i ∧ i + p.length ≤ l.length ∧ cutS p l = some (l.drop (i + p.length))) := by
  intro l
  induction l with
  | nil =>
    left
    cases p with
    | nil => exact absurd rfl hp
    | cons a p => exact ⟨rfl, rfl⟩
  | cons c l ih =>
    by_cases h : pre p (c :: l) = true
    · right
      refine ⟨0, ?_, by have := pre_len h; omega, ?_⟩
      · unfold Lib.index; rw [show p.isPrefixOf (c :: l) = true from h]; rfl
      · unfold cutS; rw [if_pos h]; simp
    · have h' : p.isPrefixOf (c :: l) = false := Bool.eq_false_iff.2 h
      rcases ih with ⟨h1, h2⟩ | ⟨i, h1, h2, h3⟩
      · left
        refine ⟨?_, ?_⟩
        · unfold Lib.index; rw [h', h1]; rfl
        · unfold cutS; rw [if_neg h, h2]
      · right
        refine ⟨i + 1, ?_, by simp only [List.length_cons]; omega, ?_⟩
        · unfold Lib.index; rw [h', h1]
          have : ((i : Int) == -1) = false := by rw [beq_eq_false_iff_ne]; omega
          simp [this]
        · unfold cutS; rw [if_neg h, h3, Nat.add_right_comm]; rfl

end Go.Proofs.YtkacjnifhmgeiaaGreatDoor

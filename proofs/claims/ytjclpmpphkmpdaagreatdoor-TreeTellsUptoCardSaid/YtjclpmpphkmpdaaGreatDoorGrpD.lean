/- Signs that are taken: what they tell, said by plain functions. · Kinds of bytes. -/
import Derived.Test.YtjclpmpphkmpdaaGreatDoorGrpC
import Derived.Test.YtjclpmpphkmpdaaGreatDoorGrpA
namespace Go.Proofs.YtjclpmpphkmpdaaGreatDoor
open Go.RowKit

def pre (p t : List UInt8) : Bool := p.isPrefixOf t
def nAmp : List UInt8 := [38, 97, 109, 112, 59]
def nLt : List UInt8 := [38, 108, 116, 59]
def nGt : List UInt8 := [38, 103, 116, 59]
def nQuot : List UInt8 := [38, 113, 117, 111, 116, 59]
def nApos : List UInt8 := [38, 97, 112, 111, 115, 59]
def nmd (t : List UInt8) : List UInt8 × Nat :=
  if pre nAmp t then ([38], 5) else if pre nLt t then ([60], 4) else if pre nGt t then ([62], 4) else if pre nQuot t then ([34], 6) else if pre nApos t then ([39], 6) else ([], 0)
/-- How many digits stand at the beginning. -/
def ndg (b : Int) (r : List UInt8) : Nat := (r.takeWhile (dig b)).length
def nbB (b : Int) (most : Nat) (r : List UInt8) : Bool := decide (ndg b r = 0) || decide (most < ndg b r) || decide (r[ndg b r]? ≠ some 59)
def nbF (b : Int) (f most : Nat) (r : List UInt8) : Int × Nat := if nbB b most r then (0, 0) else (Nv b (r.take (ndg b r)), f + ndg b r + 1)
def nbr (t : List UInt8) : Int × Nat := if pre [38, 35, 120] t then nbF 16 3 6 (t.drop 3) else if pre [38, 35] t then nbF 10 2 7 (t.drop 2) else (0, 0)
def scl (n : Int) : Bool := decide (0 < n) && decide (n ≤ 1114111) && (decide (n < 55296) || decide (57343 < n))
def rowL (n : Int) : List UInt8 := (Utf8.encode n).data.toList
def sgn (t : List UInt8) : List UInt8 × Nat × Bool :=
  if 0 < (nmd t).2 then ((nmd t).1, (nmd t).2, true) else if (nbr t).2 = 0 then ([38], 0, false) else if scl (nbr t).1 then (rowL (nbr t).1, (nbr t).2, true) else ([239, 191, 189], (nbr t).2, false)

theorem pre_len {p t : List UInt8} (h : pre p t = true) : p.length ≤ t.length := (List.isPrefixOf_iff_prefix.1 h).length_le
theorem pre_iff (p t : List UInt8) : pre p t = (decide (p.length ≤ t.length) && (t.take p.length == p)) := by
  rw [Bool.eq_iff_iff]
  simp only [pre, List.isPrefixOf_iff_prefix, Bool.and_eq_true, decide_eq_true_eq, beq_iff_eq]
  constructor
  · intro h; exact ⟨h.length_le, List.prefix_iff_eq_take.1 h |>.symm⟩
  · rintro ⟨_, h⟩; rw [List.prefix_iff_eq_take]; exact h.symm
theorem mem_tw {α : Type} {p : α → Bool} {l : List α} {c : α} (h : c ∈ l.takeWhile p) : p c = true := by
  induction l with
  | nil => simp at h
  | cons a l ih =>
    rw [List.takeWhile_cons] at h
    split at h
    · rcases List.mem_cons.1 h with rfl | h
      · assumption
      · exact ih h
    · simp at h
theorem ndg_le (b : Int) (r : List UInt8) : ndg b r ≤ r.length := (List.takeWhile_prefix _).length_le
theorem ndg_take (b : Int) (r : List UInt8) : r.take (ndg b r) = r.takeWhile (dig b) := by
  have := (List.prefix_iff_eq_take.1 (List.takeWhile_prefix (l := r) (dig b)))
  rw [ndg]; exact this.symm
theorem ndg_all (b : Int) (r : List UInt8) : (r.take (ndg b r)).all (dig b) = true := by
  rw [ndg_take, List.all_eq_true]; exact fun c hc => mem_tw hc
theorem rowL_len (n : Int) : (rowL n).length ≤ 4 := by
  unfold rowL Utf8.encode; simp only []; (repeat' split) <;> simp
theorem nmd_len (t : List UInt8) : (nmd t).1.length ≤ 1 ∧ (nmd t).2 ≤ t.length := by
  unfold nmd
  split
  · rename_i h; exact ⟨by simp, pre_len h⟩
  split
  · rename_i h; exact ⟨by simp, pre_len h⟩
  split
  · rename_i h; exact ⟨by simp, pre_len h⟩
  split
  · rename_i h; exact ⟨by simp, pre_len h⟩
  split
  · rename_i h; exact ⟨by simp, pre_len h⟩
  · simp
theorem nbF_len (b : Int) (f most : Nat) (r : List UInt8) : (nbF b f most r).2 = 0 ∨ (nbF b f most r).2 ≤ f + r.length := by
  unfold nbF
  by_cases h : nbB b most r = true
  · rw [if_pos h]; left; rfl
  · rw [if_neg h]; right
    have h2 := ndg_le b r
    simp only [nbB, Bool.or_eq_true, decide_eq_true_eq, not_or] at h
    rcases Nat.lt_or_ge (ndg b r) r.length with h3 | h3
    · simp only []; omega
    · have := h.2; rw [List.getElem?_eq_none h3] at this; simp at this
theorem nbr_len (t : List UInt8) : (nbr t).2 ≤ t.length := by
  unfold nbr
  split
  · rename_i h
    have h1 := pre_len h
    have h2 := nbF_len 16 3 6 (t.drop 3)
    simp only [List.length_cons, List.length_nil, List.length_drop] at h1 h2; omega
  split
  · rename_i h
    have h1 := pre_len h
    have h2 := nbF_len 10 2 7 (t.drop 2)
    simp only [List.length_cons, List.length_nil, List.length_drop] at h1 h2; omega
  · simp
theorem sgn_len (t : List UInt8) : (sgn t).1.length ≤ 4 ∧ (sgn t).2.1 ≤ t.length := by
  have h1 := nmd_len t
  have h2 := nbr_len t
  have h3 := rowL_len (nbr t).1
  unfold sgn
  split
  · exact ⟨by simp only []; omega, h1.2⟩
  split
  · simp
  split
  · exact ⟨h3, h2⟩
  · exact ⟨by simp, h2⟩

/-- What is taken: the text, and whether all is as it is told. -/
def TkF : Nat → List UInt8 → List UInt8 × Bool
  | 0, _ => ([], true)
  | _ + 1, [] => ([], true)
  | k + 1, c :: r => if c = 38 then ((sgn (38 :: r)).1 ++ (TkF k (r.drop ((sgn (38 :: r)).2.1 - 1))).1, (sgn (38 :: r)).2.2 && (TkF k (r.drop ((sgn (38 :: r)).2.1 - 1))).2) else (c :: (TkF k r).1, (TkF k r).2)
def Tk (l : List UInt8) : List UInt8 × Bool := TkF l.length l
theorem TkF_two (k : Nat) : ∀ (j : Nat) (l : List UInt8), l.length ≤ k → l.length ≤ j → TkF k l = TkF j l := by
  induction k with
  | zero =>
    intro j l h _
    obtain rfl := List.eq_nil_of_length_eq_zero (Nat.le_zero.1 h)
    cases j <;> rfl
  | succ k ih =>
    intro j l h h'
    cases l with
    | nil => cases j <;> rfl
    | cons c r =>
      cases j with
      | zero => simp at h'
      | succ j =>
        simp only [List.length_cons, Nat.add_le_add_iff_right] at h h'
        unfold TkF
        rw [ih j r h h', ih j (r.drop ((sgn (38 :: r)).2.1 - 1)) (by simp; omega) (by simp; omega)]
theorem TkF_eq (k : Nat) (l : List UInt8) (h : l.length ≤ k) : TkF k l = Tk l := TkF_two k _ l h (Nat.le_refl _)
theorem Tk_nil : Tk [] = ([], true) := rfl
theorem Tk_plain (c : UInt8) (r : List UInt8) (h : c ≠ 38) : Tk (c :: r) = (c :: (Tk r).1, (Tk r).2) := by
  rw [Tk, List.length_cons, TkF, if_neg h]; rfl
theorem Tk_amp (r : List UInt8) : Tk (38 :: r) = ((sgn (38 :: r)).1 ++ (Tk (r.drop ((sgn (38 :: r)).2.1 - 1))).1, (sgn (38 :: r)).2.2 && (Tk (r.drop ((sgn (38 :: r)).2.1 - 1))).2) := by
  rw [Tk, List.length_cons, TkF, if_pos rfl, TkF_eq _ _ (by simp)]
theorem Tk_app (p r : List UInt8) (h : 38 ∉ p) : Tk (p ++ r) = (p ++ (Tk r).1, (Tk r).2) := by
  induction p with
  | nil => rfl
  | cons c p ih =>
    simp only [List.mem_cons, not_or] at h
    rw [List.cons_append, Tk_plain _ _ (fun e => h.1 e.symm), ih h.2]; rfl
theorem Tk_none (l : List UInt8) (h : 38 ∉ l) : Tk l = (l, true) := by
  have := Tk_app l [] h; rw [List.append_nil] at this; rw [this]; simp [Tk_nil]
theorem bef_not (x : UInt8) (l : List UInt8) : x ∉ bef x l := by
  intro h
  have := mem_tw h
  simp at this
theorem Tk_cut (l : List UInt8) (h : 38 ∈ l) : Tk l = (bef 38 l ++ (Tk (38 :: aft 38 l)).1, (Tk (38 :: aft 38 l)).2) := by
  rcases ixb 38 l with ⟨_, _, h3⟩ | ⟨h1, _⟩
  · conv => lhs; rw [h3]
    exact Tk_app _ _ (bef_not 38 l)
  · exact absurd h h1
theorem Tk_len (k : Nat) : ∀ l : List UInt8, l.length ≤ k → (Tk l).1.length ≤ 4 * l.length := by
  induction k with
  | zero =>
    intro l h
    obtain rfl := List.eq_nil_of_length_eq_zero (Nat.le_zero.1 h)
    simp [Tk_nil]
  | succ k ih =>
    intro l h
    cases l with
    | nil => simp [Tk_nil]
    | cons c r =>
      simp only [List.length_cons, Nat.add_le_add_iff_right] at h
      by_cases hc : c = 38
      · subst hc
        rw [Tk_amp]
        have h1 := (sgn_len (38 :: r)).1
        have h2 := ih (r.drop ((sgn (38 :: r)).2.1 - 1)) (by simp; omega)
        simp only [List.length_append, List.length_drop, List.length_cons] at *
        omega
      · rw [Tk_plain _ _ hc]
        have := ih r h
        simp only [List.length_cons]; omega
end Go.Proofs.YtjclpmpphkmpdaaGreatDoor

namespace Go.Proofs.YtjclpmpphkmpdaaGreatDoor
open Go.RowKit

def wht (c : UInt8) : Bool := decide (c.toNat = 9) || decide (c.toNat = 10) || decide (c.toNat = 12) || decide (c.toNat = 13) || decide (c.toNat = 32)
def fld (c : UInt8) : UInt8 := if 65 ≤ c.toNat ∧ c.toNat ≤ 90 then c + 32 else c
def fold (l : List UInt8) : List UInt8 := l.map fld
def lwr (c : UInt8) : Bool := decide (97 ≤ c.toNat) && decide (c.toNat ≤ 122)
def dgt (c : UInt8) : Bool := decide (48 ≤ c.toNat) && decide (c.toNat ≤ 57)
def ltr (c : UInt8) : Bool := lwr c || decide (65 ≤ c.toNat) && decide (c.toNat ≤ 90)
def nmc (c : UInt8) : Bool := lwr c || dgt c || decide (c.toNat = 45)
def isNm : List UInt8 → Bool
  | [] => false
  | c :: r => lwr c && r.all nmc && decide (r.length ≤ 19)

/-- Kinds of bytes that are passed. -/
def wsl (c : UInt8) : Bool := wht c || decide (c.toNat = 47)
def nch (c : UInt8) : Bool := !wht c && decide (c.toNat ≠ 47) && decide (c.toNat ≠ 62) && decide (c.toNat ≠ 61)
def vch (c : UInt8) : Bool := !wht c && decide (c.toNat ≠ 62)
def tch (c : UInt8) : Bool := !wht c && decide (c.toNat ≠ 47) && decide (c.toNat ≠ 62)
end Go.Proofs.YtjclpmpphkmpdaaGreatDoor

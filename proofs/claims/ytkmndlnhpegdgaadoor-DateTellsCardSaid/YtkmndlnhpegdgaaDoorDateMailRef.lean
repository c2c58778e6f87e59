/- MailOf of the reference: what it answers, said by a plain function. -/
import Derived.Test.YtkmndlnhpegdgaaDoorDateWebRef
import Derived.Test.YtkmndlnhpegdgaaDoorDateLaw2
namespace Go.Proofs.YtkmndlnhpegdgaaDoor
open Go.RowKit

def mailForm1 : List UInt8 := [100, 32, 97, 97, 97, 32, 100, 100, 100, 100, 32, 100, 100, 58, 100, 100, 58, 100, 100, 32]
def mailForm2 : List UInt8 := [100, 100, 32, 97, 97, 97, 32, 100, 100, 100, 100, 32, 100, 100, 58, 100, 100, 58, 100, 100, 32]
def MZV (z : List UInt8) : Int := ZV (z[0]?.getD 0).toNat (Num ((z.drop 1).take 2)) (Num (z.drop 3))
def MZB (z : List UInt8) : Bool := decide (Num ((z.drop 1).take 2) ≤ 23) && decide (Num (z.drop 3) ≤ 59)
def MailZ (z : List UInt8) : Int × Bool := if Form z plusMail = true ∨ Form z minusMail = true then (MZV z, MZB z) else (0, z == [71, 77, 84] || z == [85, 84])
def MailS (m : List UInt8) (d : Nat) (f : List UInt8) : Ending :=
  if m.length < d + 19 ∨ Form (m.take (d + 19)) f = false then errForm
  else if (MailZ (m.drop (d + 19))).2 = false ∨ monIx ((m.drop (d + 1)).take 3) = 0 then errForm
  else TimeT (Num ((m.drop (d + 5)).take 4)) (monIx ((m.drop (d + 1)).take 3)) (Num (m.take d)) (Num (((m.drop (d + 10)).take 8).take 2)) (Num ((((m.drop (d + 10)).take 8).drop 3).take 2)) (Num (((m.drop (d + 10)).take 8).drop 6)) (MailZ (m.drop (d + 19))).1
def isOne (m : List UInt8) : Bool := match m with | _ :: c :: _ => (c.toNat : Int) == 32 | _ => false
def MailM (m : List UInt8) : Ending := if isOne m then MailS m 1 mailForm1 else MailS m 2 mailForm2
def mailHead : List UInt8 := [97, 97, 97, 44, 32]
def MailT (l : List UInt8) : Ending := if 5 < l.length ∧ Form (l.take 5) mailHead = true then MailM (l.drop 5) else MailM l

theorem mz_bd (z : List UInt8) (h : digs ((z.drop 1).take 2)) (h1 : digs (z.drop 3)) (h2 : z.length = 5) (hb : MZB z = true) : -1440 ≤ MZV z ∧ MZV z ≤ 1440 := by
  have b1 := Num_bd _ h (by simp; omega)
  have b2 := Num_bd _ h1 (by simp; omega)
  simp only [MZB, Bool.and_eq_true, decide_eq_true_eq] at hb
  unfold MZV ZV; split <;> omega

/-- What the form says of the places that are read. -/
structure MFacts (m : List UInt8) (d : Nat) : Prop where
  day : digs (m.take d)
  year : digs ((m.drop (d + 5)).take 4)
  c1 : digs (((m.drop (d + 10)).take 8).take 2)
  c2 : digs ((((m.drop (d + 10)).take 8).drop 3).take 2)
  c3 : digs (((m.drop (d + 10)).take 8).drop 6)
theorem mail_facts1 (m : List UInt8) (h : 20 ≤ m.length) (hF : Form (m.take 20) mailForm1 = true) : MFacts m 1 := by
  obtain ⟨c0, l0, rfl, h0⟩ := ucons h
  obtain ⟨c1, l1, rfl, h1⟩ := ucons h0
  obtain ⟨c2, l2, rfl, h2⟩ := ucons h1
  obtain ⟨c3, l3, rfl, h3⟩ := ucons h2
  obtain ⟨c4, l4, rfl, h4⟩ := ucons h3
  obtain ⟨c5, l5, rfl, h5⟩ := ucons h4
  obtain ⟨c6, l6, rfl, h6⟩ := ucons h5
  obtain ⟨c7, l7, rfl, h7⟩ := ucons h6
  obtain ⟨c8, l8, rfl, h8⟩ := ucons h7
  obtain ⟨c9, l9, rfl, h9⟩ := ucons h8
  obtain ⟨c10, l10, rfl, h10⟩ := ucons h9
  obtain ⟨c11, l11, rfl, h11⟩ := ucons h10
  obtain ⟨c12, l12, rfl, h12⟩ := ucons h11
  obtain ⟨c13, l13, rfl, h13⟩ := ucons h12
  obtain ⟨c14, l14, rfl, h14⟩ := ucons h13
  obtain ⟨c15, l15, rfl, h15⟩ := ucons h14
  obtain ⟨c16, l16, rfl, h16⟩ := ucons h15
  obtain ⟨c17, l17, rfl, h17⟩ := ucons h16
  obtain ⟨c18, l18, rfl, h18⟩ := ucons h17
  obtain ⟨c19, l19, rfl, h19⟩ := ucons h18
  simp only [List.take_succ_cons, List.take_zero, mailForm1, Form, Bool.and_eq_true, show ((100 : UInt8).toNat : Int) = 100 from rfl, FC_dig] at hF
  constructor <;> (simp [digs]; omega)
theorem mail_facts2 (m : List UInt8) (h : 21 ≤ m.length) (hF : Form (m.take 21) mailForm2 = true) : MFacts m 2 := by
  obtain ⟨c0, l0, rfl, h0⟩ := ucons h
  obtain ⟨c1, l1, rfl, h1⟩ := ucons h0
  obtain ⟨c2, l2, rfl, h2⟩ := ucons h1
  obtain ⟨c3, l3, rfl, h3⟩ := ucons h2
  obtain ⟨c4, l4, rfl, h4⟩ := ucons h3
  obtain ⟨c5, l5, rfl, h5⟩ := ucons h4
  obtain ⟨c6, l6, rfl, h6⟩ := ucons h5
  obtain ⟨c7, l7, rfl, h7⟩ := ucons h6
  obtain ⟨c8, l8, rfl, h8⟩ := ucons h7
  obtain ⟨c9, l9, rfl, h9⟩ := ucons h8
  obtain ⟨c10, l10, rfl, h10⟩ := ucons h9
  obtain ⟨c11, l11, rfl, h11⟩ := ucons h10
  obtain ⟨c12, l12, rfl, h12⟩ := ucons h11
  obtain ⟨c13, l13, rfl, h13⟩ := ucons h12
  obtain ⟨c14, l14, rfl, h14⟩ := ucons h13
  obtain ⟨c15, l15, rfl, h15⟩ := ucons h14
  obtain ⟨c16, l16, rfl, h16⟩ := ucons h15
  obtain ⟨c17, l17, rfl, h17⟩ := ucons h16
  obtain ⟨c18, l18, rfl, h18⟩ := ucons h17
  obtain ⟨c19, l19, rfl, h19⟩ := ucons h18
  obtain ⟨c20, l20, rfl, h20⟩ := ucons h19
  simp only [List.take_succ_cons, List.take_zero, mailForm2, Form, Bool.and_eq_true, show ((100 : UInt8).toNat : Int) = 100 from rfl, FC_dig] at hF
  constructor <;> (simp [digs]; omega)

theorem monL_inj (name : List UInt8) (k : Nat) (hk : k < 12) : (monL (k + 1) = name) ↔ monIx name = (k + 1 : Nat) := by
  constructor
  · intro h; subst h; exact (monL_tk (k + 1) (by omega) (by omega) []).2.2.2
  · intro h
    unfold monIx at h
    by_cases e0 : name = [74, 97, 110]
    · rw [if_pos e0] at h
      obtain rfl : k = 0 := by omega
      exact e0.symm
    rw [if_neg e0] at h
    by_cases e1 : name = [70, 101, 98]
    · rw [if_pos e1] at h
      obtain rfl : k = 1 := by omega
      exact e1.symm
    rw [if_neg e1] at h
    by_cases e2 : name = [77, 97, 114]
    · rw [if_pos e2] at h
      obtain rfl : k = 2 := by omega
      exact e2.symm
    rw [if_neg e2] at h
    by_cases e3 : name = [65, 112, 114]
    · rw [if_pos e3] at h
      obtain rfl : k = 3 := by omega
      exact e3.symm
    rw [if_neg e3] at h
    by_cases e4 : name = [77, 97, 121]
    · rw [if_pos e4] at h
      obtain rfl : k = 4 := by omega
      exact e4.symm
    rw [if_neg e4] at h
    by_cases e5 : name = [74, 117, 110]
    · rw [if_pos e5] at h
      obtain rfl : k = 5 := by omega
      exact e5.symm
    rw [if_neg e5] at h
    by_cases e6 : name = [74, 117, 108]
    · rw [if_pos e6] at h
      obtain rfl : k = 6 := by omega
      exact e6.symm
    rw [if_neg e6] at h
    by_cases e7 : name = [65, 117, 103]
    · rw [if_pos e7] at h
      obtain rfl : k = 7 := by omega
      exact e7.symm
    rw [if_neg e7] at h
    by_cases e8 : name = [83, 101, 112]
    · rw [if_pos e8] at h
      obtain rfl : k = 8 := by omega
      exact e8.symm
    rw [if_neg e8] at h
    by_cases e9 : name = [79, 99, 116]
    · rw [if_pos e9] at h
      obtain rfl : k = 9 := by omega
      exact e9.symm
    rw [if_neg e9] at h
    by_cases e10 : name = [78, 111, 118]
    · rw [if_pos e10] at h
      obtain rfl : k = 10 := by omega
      exact e10.symm
    rw [if_neg e10] at h
    by_cases e11 : name = [68, 101, 99]
    · rw [if_pos e11] at h
      obtain rfl : k = 11 := by omega
      exact e11.symm
    rw [if_neg e11] at h
    exfalso; omega
def monK (name : List UInt8) (k : Nat) : Int := if monIx name ≤ k then monIx name else 0
theorem monIx_12 (s : List UInt8) : 0 ≤ monIx s ∧ monIx s ≤ 12 := by
  unfold monIx; (repeat' split) <;> omega
theorem monK_0 (name : List UInt8) : monK name 0 = 0 := by
  have := monIx_12 name
  unfold monK; split <;> omega
theorem monK_12 (name : List UInt8) : monK name 12 = monIx name := by
  have := monIx_12 name
  unfold monK; rw [if_pos (by omega)]
theorem monK_yes (name : List UInt8) (k : Nat) (hk : k < 12) (h : monL (k + 1) = name) : monK name (k + 1) = (k : Int) + 1 := by
  have := (monL_inj name k hk).1 h
  unfold monK; rw [this, if_pos (Int.le_refl _)]; omega
theorem monK_no (name : List UInt8) (k : Nat) (hk : k < 12) (h : ¬ monL (k + 1) = name) : monK name (k + 1) = monK name k := by
  have h1 : ¬ monIx name = (k + 1 : Nat) := fun e => h ((monL_inj name k hk).2 e)
  have := monIx_12 name
  unfold monK; split <;> split <;> omega
end Go.Proofs.YtkmndlnhpegdgaaDoor

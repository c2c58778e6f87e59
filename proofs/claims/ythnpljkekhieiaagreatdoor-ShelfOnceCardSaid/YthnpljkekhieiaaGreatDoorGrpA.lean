/- Base of the texts of this seat: imports, the walk's added rules, small words. · Kinds of bytes. · The reference's small functions that the seats beside the date's share. · Tokens: memory; kinds of bytes, small letters, names: program and reference. -/
import Derived.Test.YthnpljkekhieiaaGreatDoorChecked
import Derived.WalkKit
import Derived.WalkSpells
import Derived.WalkLawsBesides
import Derived.Lib.Hide
import Derived.Handy
import Derived.Deep.QuietTactic
import Derived.BigQuiet
import Derived.Laws.AppendOwn
import Derived.OwnWalk
import Derived.RegionTactic
namespace Go.Proofs.YthnpljkekhieiaaGreatDoor
open Go.RowKit

theorem mk_get (l : List UInt8) (k : Nat) (h : k < (ByteArray.mk l.toArray).size) : (ByteArray.mk l.toArray)[k]'h = l[k]'(by simpa [ByteArray.size] using h) := rfl
theorem u8_lt (c : UInt8) : c.toNat < 256 := c.toNat_lt
theorem take_snoc {α : Type} (l : List α) (k : Nat) (h : k < l.length) : l.take (k + 1) = l.take k ++ [l[k]] := by rw [List.take_succ_eq_append_getElem h]
theorem snoc_ind {α : Type} {p : List α → Prop} (h0 : p []) (h1 : ∀ l c, p l → p (l ++ [c])) (l : List α) : p l := by
  suffices h : ∀ l, p (List.reverse l) by have := h l.reverse; simpa using this
  intro l
  induction l with
  | nil => exact h0
  | cons c l ih => rw [List.reverse_cons]; exact h1 _ _ ih
theorem ret_int {k : IntKind} {a b : Int} (h : a = b) : Ending.returned (.int k a) = .returned (.int k b) := by rw [h]
theorem ret_bool {a b : Bool} (h : a = b) : Ending.returned (.bool a) = .returned (.bool b) := by rw [h]

theorem quiet_eq {P : Program} {f : FuncId} {args : Array Value} {w : World} {n : Nat} {v : Value}
    (h : Calls P f args (w.drewN n) fun e w' => e = .returned v ∧ w.drewN n = w') : Calls P f args (w.drewN n) fun e w'' => e = .returned v ∧ ∃ m, w'' = w.drewN m :=
  h.mono fun _ _ ⟨he, hm⟩ => ⟨he, n, hm.symm⟩
/-- Draws alone. -/
def Qt (w w' : World) : Prop := ∃ n, w' = w.drewN n
theorem Qt.refl (w : World) : Qt w w := ⟨0, rfl⟩
theorem Qt.drewN {a b : World} (h : Qt a b) (n : Nat) : Qt a (b.drewN n) := by obtain ⟨m, rfl⟩ := h; exact ⟨m + n, by rw [World.drewN_drewN]⟩
theorem quiet_qt {P : Program} {f : FuncId} {args : Array Value} {w : World} {n : Nat} {v : Value}
    (h : Calls P f args (w.drewN n) fun e w' => e = .returned v ∧ Qt (w.drewN n) w') : Calls P f args (w.drewN n) fun e w'' => e = .returned v ∧ ∃ m, w'' = w.drewN m :=
  Calls.quiet_of h
theorem quiet_eq2 {P : Program} {f : FuncId} {args : Array Value} {w : World} {a n : Nat} {v : Value}
    (h : Calls P f args (w.drewN (a + n)) fun e w' => e = .returned v ∧ w.drewN (a + n) = w') : Calls P f args (w.drewN (a + n)) fun e w'' => e = .returned v ∧ ∃ m, w'' = w.drewN (a + m) :=
  h.mono fun _ _ ⟨he, hm⟩ => ⟨he, n, hm.symm⟩
/-- Nothing that was there is turned; there may be more. -/
def Bl (w w' : World) : Prop := Below w.heap.size w w'
theorem Bl.refl (w : World) : Bl w w := Below.refl _ _
theorem Bl.trans {a b c : World} (h : Bl a b) (k : Bl b c) : Bl a c := Below.trans h (Below.mono k (Below.size h))
theorem Bl.drewN {a b : World} (h : Bl a b) (n : Nat) : Bl a (b.drewN n) := h.trans (below_drewN (Below.refl _ _) n)
theorem Bl.alloc {a b : World} (h : Bl a b) (o : Obj) : Bl a (b.alloc o) := Below.alloc h (Below.size h) o
theorem Qt.bl {a b : World} (h : Qt a b) : Bl a b := by obtain ⟨m, rfl⟩ := h; exact (Bl.refl _).drewN m
theorem Bl.drew {a b : World} (h : Bl a b) : Bl a b.drew := Below.drew h

theorem Bl.cells {W w1 : World} (hb : Bl W w1) : (∀ b o, b < W.heap.size → w1.cell? ⟨b, o, none⟩ = W.cell? ⟨b, o, none⟩) ∧ (∀ b o, b < W.heap.size → w1.frozen? ⟨b, o, none⟩ = W.frozen? ⟨b, o, none⟩) :=
  ⟨fun b o h => Below.cell hb (p := ⟨b, o, none⟩) h, fun b o h => Below.frozen hb (p := ⟨b, o, none⟩) h⟩
theorem take_drop_all {α : Type} (l : List α) (k : Nat) : (l.drop k).take (l.length - k) = l.drop k := List.take_of_length_le (by simp)

attribute [go_sem] Nat.sub_sub take_drop_all List.take_of_length_le mk_get ByteArray.mk_append_mk ByteArray.extract_mk ByteArray.toList_mk

end Go.Proofs.YthnpljkekhieiaaGreatDoor

namespace Go.Proofs.YthnpljkekhieiaaGreatDoor
open Go.RowKit

def wht (c : UInt8) : Bool := decide (c.toNat = 9) || decide (c.toNat = 10) || decide (c.toNat = 12) || decide (c.toNat = 13) || decide (c.toNat = 32)
def fld (c : UInt8) : UInt8 := if 65 ≤ c.toNat ∧ c.toNat ≤ 90 then c + 32 else c
def fold (l : List UInt8) : List UInt8 := l.map fld
def lwr (c : UInt8) : Bool := decide (97 ≤ c.toNat) && decide (c.toNat ≤ 122)
def dgt (c : UInt8) : Bool := decide (48 ≤ c.toNat) && decide (c.toNat ≤ 57)
def ltr (c : UInt8) : Bool := lwr c || decide (65 ≤ c.toNat) && decide (c.toNat ≤ 90)
def nmc (c : UInt8) : Bool := lwr c || dgt c || decide (c.toNat = 45)
def isNm : List UInt8 → Bool
  | [] => false
  | c :: r => lwr c && r.all nmc && decide (r.length ≤ 19)

/-- Kinds of bytes that are passed. -/
def wsl (c : UInt8) : Bool := wht c || decide (c.toNat = 47)
def nch (c : UInt8) : Bool := !wht c && decide (c.toNat ≠ 47) && decide (c.toNat ≠ 62) && decide (c.toNat ≠ 61)
def vch (c : UInt8) : Bool := !wht c && decide (c.toNat ≠ 62)
def tch (c : UInt8) : Bool := !wht c && decide (c.toNat ≠ 47) && decide (c.toNat ≠ 62)
end Go.Proofs.YthnpljkekhieiaaGreatDoor

namespace Go.Proofs.YthnpljkekhieiaaGreatDoor
open Go.RowKit

def Dg (n base : Int) : Int :=
  let v := if 48 ≤ n ∧ n ≤ 57 then n - 48 else if 97 ≤ n ∧ n ≤ 102 then n - 97 + 10 else if 65 ≤ n ∧ n ≤ 70 then n - 65 + 10 else -1
  if base ≤ v then -1 else v
end Go.Proofs.YthnpljkekhieiaaGreatDoor

namespace Go.Proofs.YthnpljkekhieiaaGreatDoor
open Go.RowKit

theorem gb_refl (b : Option Nat) (w : World) : w.grownBy w b := ⟨rfl, rfl, rfl, Nat.le_refl _, fun _ _ _ => rfl⟩
theorem gb_trans {b : Option Nat} {x y z : World} (h : x.grownBy y b) (k : y.grownBy z b) : x.grownBy z b :=
  ⟨k.os.trans h.os, k.tape.trans h.tape, k.output.trans h.output, Nat.le_trans h.size k.size, fun i hi hne => (k.block i (Nat.lt_of_lt_of_le hi h.size) hne).trans (h.block i hi hne)⟩
theorem gb_bl {b : Option Nat} {w w' : World} (h : Bl w w') : w.grownBy w' b := ⟨Below.os h, Below.tape h, Below.output h, Below.size h, fun k hk _ => Below.block h k hk⟩
theorem gb_set {b : Nat} {x w : World} (h : x.grownBy w (some b)) (o : Nat) (v : Value) : x.grownBy (w.setCell ⟨b, o, none⟩ v) (some b) :=
  ⟨h.os, h.tape, h.output, by simpa using h.size, fun k hk hne => (Below.heap_setCell w ⟨b, o, none⟩ v k (by rintro rfl; exact hne rfl)).trans (h.block k hk hne)⟩
theorem gb_drewN {b : Option Nat} {x w : World} (h : x.grownBy w b) (n : Nat) : x.grownBy (w.drewN n) b := gb_trans h (gb_bl ((Bl.refl _).drewN n))
theorem gb_qt {b : Option Nat} {w w' : World} (h : Qt w w') : w.grownBy w' b := gb_bl h.bl
/-- The reader: its text, where it stands, the text since the last tag, what has come out. -/
def Rk (w : World) (b : Nat) (s : List UInt8) (k : Nat) (x : List UInt8) (v : Value) : Prop :=
  w.heap[b]? = some (.cells #[.string ⟨s.toArray⟩, .int .i64 (k : Int), .string ⟨x.toArray⟩, v] 115 (0, 0))
theorem Rk.lt {w : World} {b k : Nat} {s x : List UInt8} {v : Value} (h : Rk w b s k x v) : b < w.heap.size := (Array.getElem?_eq_some_iff.1 h).1
theorem Rk.cells {w : World} {b k : Nat} {s x : List UInt8} {v : Value} (h : Rk w b s k x v) :
    w.cell? ⟨b, 0, none⟩ = some (.string ⟨s.toArray⟩) ∧ w.cell? ⟨b, 1, none⟩ = some (.int .i64 (k : Int)) ∧ w.cell? ⟨b, 2, none⟩ = some (.string ⟨x.toArray⟩) ∧ w.cell? ⟨b, 3, none⟩ = some v ∧
    w.frozen? ⟨b, 0, none⟩ = false ∧ w.frozen? ⟨b, 1, none⟩ = false ∧ w.frozen? ⟨b, 2, none⟩ = false ∧ w.frozen? ⟨b, 3, none⟩ = false := by
  unfold Rk at h
  simp [World.cell?, World.frozen?, h]
theorem Rk.of_bl {w w' : World} {b k : Nat} {s x : List UInt8} {v : Value} (h : Rk w b s k x v) (hb : Bl w w') : Rk w' b s k x v := by
  have := h.lt
  unfold Rk at *; rw [Below.block hb b this, h]
theorem Rk.set1 {w : World} {b k : Nat} {s x : List UInt8} {v : Value} (h : Rk w b s k x v) (j : Nat) : Rk (w.setCell ⟨b, 1, none⟩ (.int .i64 (j : Int))) b s j x v := by
  unfold Rk at *
  simp [World.setCell, h, Array.getElem?_modify]
theorem Rk.seti {w : World} {b k : Nat} {s x : List UInt8} {v : Value} (h : Rk w b s k x v) {n : Int} {j : Nat} (e : n = (j : Int)) : Rk (w.setCell ⟨b, 1, none⟩ (.int .i64 n)) b s j x v := by
  subst e; exact h.set1 j
theorem Rk.set2 {w : World} {b k : Nat} {s x : List UInt8} {v : Value} (h : Rk w b s k x v) (y : List UInt8) : Rk (w.setCell ⟨b, 2, none⟩ (.string ⟨y.toArray⟩)) b s k y v := by
  unfold Rk at *
  simp [World.setCell, h, Array.getElem?_modify]
theorem Rk.set3 {w : World} {b k : Nat} {s x : List UInt8} {v : Value} (h : Rk w b s k x v) (u : Value) : Rk (w.setCell ⟨b, 3, none⟩ u) b s k x u := by
  unfold Rk at *
  simp [World.setCell, h, Array.getElem?_modify]
theorem Rk.of_gb {w w' : World} {b k : Nat} {s x : List UInt8} {v : Value} {g : Option Nat} (h : Rk w b s k x v) (hg : w.grownBy w' g) (hne : some b ≠ g) : Rk w' b s k x v := by
  have := h.lt
  unfold Rk at *; rw [hg.block b this hne, h]
def atOf (b : Nat) (w : World) : Nat := match w.cell? ⟨b, 1, none⟩ with | some v => (intOf v).toNat | none => 0
theorem Rk.at_eq {w : World} {b k : Nat} {s x : List UInt8} {v : Value} (h : Rk w b s k x v) : atOf b w = k := by unfold atOf; rw [h.cells.2.1]; simp [intOf]

theorem white_c (c : UInt8) (w : World) : Calls Tryz.prog 164 #[.int .u8 (c.toNat : Int)] w fun e w' => e = .returned (.bool (wht c)) ∧ w = w' := by
  go_enter Tryz.func164, Tryz.ntmps164
  go_wp2
  all_goals
    go_ret
    exact ⟨ret_bool (by rw [Bool.eq_iff_iff]; simp [wht]; omega), rfl⟩
theorem letter_c (c : UInt8) (w : World) : Calls Tryz.prog 161 #[.int .u8 (c.toNat : Int)] w fun e w' => e = .returned (.bool (ltr c)) ∧ w = w' := by
  go_enter Tryz.func161, Tryz.ntmps161
  go_wp2
  all_goals
    go_ret
    exact ⟨ret_bool (by rw [Bool.eq_iff_iff]; simp [ltr, lwr]; omega), rfl⟩
end Go.Proofs.YthnpljkekhieiaaGreatDoor

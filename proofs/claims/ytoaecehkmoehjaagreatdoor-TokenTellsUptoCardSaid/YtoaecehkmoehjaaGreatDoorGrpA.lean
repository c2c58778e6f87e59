/- Base of the texts of this seat: imports, the walk's added rules, small words. · Kinds of bytes. · The reference's small functions that the seats beside the date's share. · Tokens: memory; kinds of bytes, small letters, names: program and reference. · Tokens: names: program and reference. · Signs that are put: the reference's PutOf; short walks of escape. -/
import Derived.Test.YtoaecehkmoehjaaGreatDoorChecked
import Derived.WalkKit
import Derived.WalkSpells
import Derived.WalkLawsBesides
import Derived.Lib.Hide
import Derived.Handy
import Derived.Deep.QuietTactic
import Derived.BigQuiet
import Derived.Laws.AppendOwn
import Derived.OwnWalk
import Derived.RegionTactic
namespace Go.Proofs.YtoaecehkmoehjaaGreatDoor
open Go.RowKit

theorem mk_get (l : List UInt8) (k : Nat) (h : k < (ByteArray.mk l.toArray).size) : (ByteArray.mk l.toArray)[k]'h = l[k]'(by simpa [ByteArray.size] using h) := rfl
theorem u8_lt (c : UInt8) : c.toNat < 256 := c.toNat_lt
theorem take_snoc {α : Type} (l : List α) (k : Nat) (h : k < l.length) : l.take (k + 1) = l.take k ++ [l[k]] := by rw [List.take_succ_eq_append_getElem h]
theorem snoc_ind {α : Type} {p : List α → Prop} (h0 : p []) (h1 : ∀ l c, p l → p (l ++ [c])) (l : List α) : p l := by
  suffices h : ∀ l, p (List.reverse l) by have := h l.reverse; simpa using this
  intro l
  induction l with
  | nil => exact h0
  | cons c l ih => rw [List.reverse_cons]; exact h1 _ _ ih
theorem ucons {α : Type} {l : List α} {n : Nat} (h : n + 1 ≤ l.length) : ∃ c t, l = c :: t ∧ n ≤ t.length := by
  cases l with
  | nil => simp at h
  | cons c t => exact ⟨c, t, rfl, by simpa using h⟩
theorem ret_int {k : IntKind} {a b : Int} (h : a = b) : Ending.returned (.int k a) = .returned (.int k b) := by rw [h]
theorem ret_bool {a b : Bool} (h : a = b) : Ending.returned (.bool a) = .returned (.bool b) := by rw [h]

theorem quiet_eq {P : Program} {f : FuncId} {args : Array Value} {w : World} {n : Nat} {v : Value}
    (h : Calls P f args (w.drewN n) fun e w' => e = .returned v ∧ w.drewN n = w') : Calls P f args (w.drewN n) fun e w'' => e = .returned v ∧ ∃ m, w'' = w.drewN m :=
  h.mono fun _ _ ⟨he, hm⟩ => ⟨he, n, hm.symm⟩
/-- Draws alone. -/
def Qt (w w' : World) : Prop := ∃ n, w' = w.drewN n
theorem Qt.refl (w : World) : Qt w w := ⟨0, rfl⟩
theorem Qt.drewN {a b : World} (h : Qt a b) (n : Nat) : Qt a (b.drewN n) := by obtain ⟨m, rfl⟩ := h; exact ⟨m + n, by rw [World.drewN_drewN]⟩
theorem quiet_qt {P : Program} {f : FuncId} {args : Array Value} {w : World} {n : Nat} {v : Value}
    (h : Calls P f args (w.drewN n) fun e w' => e = .returned v ∧ Qt (w.drewN n) w') : Calls P f args (w.drewN n) fun e w'' => e = .returned v ∧ ∃ m, w'' = w.drewN m :=
  Calls.quiet_of h
theorem quiet_eq2 {P : Program} {f : FuncId} {args : Array Value} {w : World} {a n : Nat} {v : Value}
    (h : Calls P f args (w.drewN (a + n)) fun e w' => e = .returned v ∧ w.drewN (a + n) = w') : Calls P f args (w.drewN (a + n)) fun e w'' => e = .returned v ∧ ∃ m, w'' = w.drewN (a + m) :=
  h.mono fun _ _ ⟨he, hm⟩ => ⟨he, n, hm.symm⟩
theorem quiet_qt2 {P : Program} {f : FuncId} {args : Array Value} {w : World} {a n : Nat} {v : Value}
    (h : Calls P f args (w.drewN (a + n)) fun e w' => e = .returned v ∧ Qt (w.drewN (a + n)) w') : Calls P f args (w.drewN (a + n)) fun e w'' => e = .returned v ∧ ∃ m, w'' = w.drewN (a + m) :=
  h.mono fun _ _ ⟨he, m, hm⟩ => ⟨he, n + m, by rw [hm, World.drewN_drewN, Nat.add_assoc]⟩
/-- Nothing that was there is turned; there may be more. -/
def Bl (w w' : World) : Prop := Below w.heap.size w w'
theorem Bl.refl (w : World) : Bl w w := Below.refl _ _
theorem Bl.trans {a b c : World} (h : Bl a b) (k : Bl b c) : Bl a c := Below.trans h (Below.mono k (Below.size h))
theorem Bl.drewN {a b : World} (h : Bl a b) (n : Nat) : Bl a (b.drewN n) := h.trans (below_drewN (Below.refl _ _) n)
theorem Bl.alloc {a b : World} (h : Bl a b) (o : Obj) : Bl a (b.alloc o) := Below.alloc h (Below.size h) o
theorem Qt.bl {a b : World} (h : Qt a b) : Bl a b := by obtain ⟨m, rfl⟩ := h; exact (Bl.refl _).drewN m
theorem Bl.drew {a b : World} (h : Bl a b) : Bl a b.drew := Below.drew h

theorem Bl.cells {W w1 : World} (hb : Bl W w1) : (∀ b o, b < W.heap.size → w1.cell? ⟨b, o, none⟩ = W.cell? ⟨b, o, none⟩) ∧ (∀ b o, b < W.heap.size → w1.frozen? ⟨b, o, none⟩ = W.frozen? ⟨b, o, none⟩) :=
  ⟨fun b o h => Below.cell hb (p := ⟨b, o, none⟩) h, fun b o h => Below.frozen hb (p := ⟨b, o, none⟩) h⟩
theorem take_drop_all {α : Type} (l : List α) (k : Nat) : (l.drop k).take (l.length - k) = l.drop k := List.take_of_length_le (by simp)

attribute [go_sem] Nat.sub_sub take_drop_all List.take_of_length_le mk_get ByteArray.mk_append_mk ByteArray.extract_mk ByteArray.toList_mk

end Go.Proofs.YtoaecehkmoehjaaGreatDoor

namespace Go.Proofs.YtoaecehkmoehjaaGreatDoor
open Go.RowKit

def wht (c : UInt8) : Bool := decide (c.toNat = 9) || decide (c.toNat = 10) || decide (c.toNat = 12) || decide (c.toNat = 13) || decide (c.toNat = 32)
def fld (c : UInt8) : UInt8 := if 65 ≤ c.toNat ∧ c.toNat ≤ 90 then c + 32 else c
def fold (l : List UInt8) : List UInt8 := l.map fld
def lwr (c : UInt8) : Bool := decide (97 ≤ c.toNat) && decide (c.toNat ≤ 122)
def dgt (c : UInt8) : Bool := decide (48 ≤ c.toNat) && decide (c.toNat ≤ 57)
def ltr (c : UInt8) : Bool := lwr c || decide (65 ≤ c.toNat) && decide (c.toNat ≤ 90)
def nmc (c : UInt8) : Bool := lwr c || dgt c || decide (c.toNat = 45)
def isNm : List UInt8 → Bool
  | [] => false
  | c :: r => lwr c && r.all nmc && decide (r.length ≤ 19)

/-- Kinds of bytes that are passed. -/
def wsl (c : UInt8) : Bool := wht c || decide (c.toNat = 47)
def nch (c : UInt8) : Bool := !wht c && decide (c.toNat ≠ 47) && decide (c.toNat ≠ 62) && decide (c.toNat ≠ 61)
def vch (c : UInt8) : Bool := !wht c && decide (c.toNat ≠ 62)
def tch (c : UInt8) : Bool := !wht c && decide (c.toNat ≠ 47) && decide (c.toNat ≠ 62)
end Go.Proofs.YtoaecehkmoehjaaGreatDoor

namespace Go.Proofs.YtoaecehkmoehjaaGreatDoor
open Go.RowKit

def Dg (n base : Int) : Int :=
  let v := if 48 ≤ n ∧ n ≤ 57 then n - 48 else if 97 ≤ n ∧ n ≤ 102 then n - 97 + 10 else if 65 ≤ n ∧ n ≤ 70 then n - 65 + 10 else -1
  if base ≤ v then -1 else v
theorem between_c (a b c : Int) (w : World) :
    Calls Tryz.prog 20 #[.int .i64 a, .int .i64 b, .int .i64 c] w fun e w' => e = .returned (.bool (decide (b ≤ a) && decide (a ≤ c))) ∧ w = w' := by
  go_enter Tryz.func20, Tryz.ntmps20
  go_wp2
  all_goals (go_ret; exact ⟨ret_bool (by simp [*] <;> omega), rfl⟩)
theorem digit_c (n base : Int) (h0 : 0 ≤ n) (h1 : n ≤ 255) (w : World) :
    Calls Tryz.prog 55 #[.int .u8 n, .int .i64 base] w fun e w' => e = .returned (.int .i64 (Dg n base)) ∧ w = w' := by
  go_enter Tryz.func55, Tryz.ntmps55
  go_wp2_with (go_at_call 20; refine (between_c _ _ _ _).mono ?_; rintro e w' ⟨rfl, rfl⟩)
  all_goals (go_ret; exact ⟨ret_int (by simp only [Dg]; (repeat' split) <;> omega), rfl⟩)
end Go.Proofs.YtoaecehkmoehjaaGreatDoor

namespace Go.Proofs.YtoaecehkmoehjaaGreatDoor
open Go.RowKit

theorem gb_refl (b : Option Nat) (w : World) : w.grownBy w b := ⟨rfl, rfl, rfl, Nat.le_refl _, fun _ _ _ => rfl⟩
theorem gb_trans {b : Option Nat} {x y z : World} (h : x.grownBy y b) (k : y.grownBy z b) : x.grownBy z b :=
  ⟨k.os.trans h.os, k.tape.trans h.tape, k.output.trans h.output, Nat.le_trans h.size k.size, fun i hi hne => (k.block i (Nat.lt_of_lt_of_le hi h.size) hne).trans (h.block i hi hne)⟩
theorem gb_bl {b : Option Nat} {w w' : World} (h : Bl w w') : w.grownBy w' b := ⟨Below.os h, Below.tape h, Below.output h, Below.size h, fun k hk _ => Below.block h k hk⟩
theorem gb_set {b : Nat} {x w : World} (h : x.grownBy w (some b)) (o : Nat) (v : Value) : x.grownBy (w.setCell ⟨b, o, none⟩ v) (some b) :=
  ⟨h.os, h.tape, h.output, by simpa using h.size, fun k hk hne => (Below.heap_setCell w ⟨b, o, none⟩ v k (by rintro rfl; exact hne rfl)).trans (h.block k hk hne)⟩
theorem gb_drewN {b : Option Nat} {x w : World} (h : x.grownBy w b) (n : Nat) : x.grownBy (w.drewN n) b := gb_trans h (gb_bl ((Bl.refl _).drewN n))
theorem gb_qt {b : Option Nat} {w w' : World} (h : Qt w w') : w.grownBy w' b := gb_bl h.bl
theorem bl_of_gb {w w' : World} (h : w.grownBy w' none) : Bl w w' := ⟨h.os, h.tape, h.output, h.size, fun k hk => h.block k hk (by simp)⟩

/-- The reader: its text, where it stands, the text since the last tag, what has come out. -/
def Rk (w : World) (b : Nat) (s : List UInt8) (k : Nat) (x : List UInt8) (v : Value) : Prop :=
  w.heap[b]? = some (.cells #[.string ⟨s.toArray⟩, .int .i64 (k : Int), .string ⟨x.toArray⟩, v] 59 (0, 0))
theorem Rk.lt {w : World} {b k : Nat} {s x : List UInt8} {v : Value} (h : Rk w b s k x v) : b < w.heap.size := (Array.getElem?_eq_some_iff.1 h).1
theorem Rk.cells {w : World} {b k : Nat} {s x : List UInt8} {v : Value} (h : Rk w b s k x v) :
    w.cell? ⟨b, 0, none⟩ = some (.string ⟨s.toArray⟩) ∧ w.cell? ⟨b, 1, none⟩ = some (.int .i64 (k : Int)) ∧ w.cell? ⟨b, 2, none⟩ = some (.string ⟨x.toArray⟩) ∧ w.cell? ⟨b, 3, none⟩ = some v ∧
    w.frozen? ⟨b, 0, none⟩ = false ∧ w.frozen? ⟨b, 1, none⟩ = false ∧ w.frozen? ⟨b, 2, none⟩ = false ∧ w.frozen? ⟨b, 3, none⟩ = false := by
  unfold Rk at h
  simp [World.cell?, World.frozen?, h]
theorem Rk.of_bl {w w' : World} {b k : Nat} {s x : List UInt8} {v : Value} (h : Rk w b s k x v) (hb : Bl w w') : Rk w' b s k x v := by
  have := h.lt
  unfold Rk at *; rw [Below.block hb b this, h]
theorem Rk.set1 {w : World} {b k : Nat} {s x : List UInt8} {v : Value} (h : Rk w b s k x v) (j : Nat) : Rk (w.setCell ⟨b, 1, none⟩ (.int .i64 (j : Int))) b s j x v := by
  unfold Rk at *
  simp [World.setCell, h, Array.getElem?_modify]
theorem Rk.seti {w : World} {b k : Nat} {s x : List UInt8} {v : Value} (h : Rk w b s k x v) {n : Int} {j : Nat} (e : n = (j : Int)) : Rk (w.setCell ⟨b, 1, none⟩ (.int .i64 n)) b s j x v := by
  subst e; exact h.set1 j
theorem Rk.set2 {w : World} {b k : Nat} {s x : List UInt8} {v : Value} (h : Rk w b s k x v) (y : List UInt8) : Rk (w.setCell ⟨b, 2, none⟩ (.string ⟨y.toArray⟩)) b s k y v := by
  unfold Rk at *
  simp [World.setCell, h, Array.getElem?_modify]
theorem Rk.set3 {w : World} {b k : Nat} {s x : List UInt8} {v : Value} (h : Rk w b s k x v) (u : Value) : Rk (w.setCell ⟨b, 3, none⟩ u) b s k x u := by
  unfold Rk at *
  simp [World.setCell, h, Array.getElem?_modify]
theorem Rk.of_gb {w w' : World} {b k : Nat} {s x : List UInt8} {v : Value} {g : Option Nat} (h : Rk w b s k x v) (hg : w.grownBy w' g) (hne : some b ≠ g) : Rk w' b s k x v := by
  have := h.lt
  unfold Rk at *; rw [hg.block b this hne, h]
def atOf (b : Nat) (w : World) : Nat := match w.cell? ⟨b, 1, none⟩ with | some v => (intOf v).toNat | none => 0
theorem Rk.at_eq {w : World} {b k : Nat} {s x : List UInt8} {v : Value} (h : Rk w b s k x v) : atOf b w = k := by unfold atOf; rw [h.cells.2.1]; simp [intOf]

theorem white_c (c : UInt8) (w : World) : Calls Tryz.prog 83 #[.int .u8 (c.toNat : Int)] w fun e w' => e = .returned (.bool (wht c)) ∧ w = w' := by
  go_enter Tryz.func83, Tryz.ntmps83
  go_wp2
  all_goals
    go_ret
    exact ⟨ret_bool (by rw [Bool.eq_iff_iff]; simp [wht]; omega), rfl⟩
theorem letter_c (c : UInt8) (w : World) : Calls Tryz.prog 80 #[.int .u8 (c.toNat : Int)] w fun e w' => e = .returned (.bool (ltr c)) ∧ w = w' := by
  go_enter Tryz.func80, Tryz.ntmps80
  go_wp2
  all_goals
    go_ret
    exact ⟨ret_bool (by rw [Bool.eq_iff_iff]; simp [ltr, lwr]; omega), rfl⟩
theorem isWhite_c (c : UInt8) (w : World) : Calls Tryz.prog 27 #[.int .u8 (c.toNat : Int)] w fun e w' => e = .returned (.bool (wht c)) ∧ w = w' := by
  have := u8_lt c
  go_enter Tryz.func27, Tryz.ntmps27
  go_wp2_with (go_at_call 20; refine (between_c _ _ _ _).mono ?_; rintro e w' ⟨rfl, rfl⟩)
  all_goals
    go_ret
    exact ⟨ret_bool (by rw [Bool.eq_iff_iff]; simp [wht]; omega), rfl⟩
theorem isLetter_c (c : UInt8) (w : World) : Calls Tryz.prog 25 #[.int .u8 (c.toNat : Int)] w fun e w' => e = .returned (.bool (ltr c)) ∧ w = w' := by
  have := u8_lt c
  go_enter Tryz.func25, Tryz.ntmps25
  go_wp2_with (go_at_call 20; refine (between_c _ _ _ _).mono ?_; rintro e w' ⟨rfl, rfl⟩)
  all_goals
    go_ret
    exact ⟨ret_bool (by rw [Bool.eq_iff_iff]; simp [ltr, lwr]; omega), rfl⟩
end Go.Proofs.YtoaecehkmoehjaaGreatDoor

namespace Go.Proofs.YtoaecehkmoehjaaGreatDoor
open Go.RowKit

/-- A name, byte by byte. -/
def posN (k : Nat) (c : UInt8) : Bool := if k = 0 then lwr c else nmc c
theorem posN_iff (k : Nat) (c : UInt8) : posN k c = true ↔ (97 ≤ c.toNat ∧ c.toNat ≤ 122) ∨ (k ≠ 0 ∧ (48 ≤ c.toNat ∧ c.toNat ≤ 57 ∨ c.toNat = 45)) := by
  unfold posN
  by_cases h : k = 0
  · simp [h, lwr]
  · simp [h, nmc, lwr, dgt]; omega
theorem posN_no {k : Nat} {c : UInt8} (h : ¬ ((97 ≤ c.toNat ∧ c.toNat ≤ 122) ∨ (k ≠ 0 ∧ (48 ≤ c.toNat ∧ c.toNat ≤ 57 ∨ c.toNat = 45)))) : posN k c = false := by
  rw [← posN_iff] at h; simpa using h
theorem isNm_pos (l : List UInt8) (hp : ∀ i (h : i < l.length), posN i l[i] = true) (hl : l.length ≤ 20) (h0 : l ≠ []) : isNm l = true := by
  cases l with
  | nil => exact absurd rfl h0
  | cons c r =>
    have h1 := hp 0 (by simp)
    simp only [List.getElem_cons_zero, posN, if_true] at h1
    simp only [isNm, h1, Bool.true_and, Bool.and_eq_true, decide_eq_true_eq, List.all_eq_true]
    refine ⟨fun x hx => ?_, by simpa using hl⟩
    obtain ⟨i, hi, rfl⟩ := List.mem_iff_getElem.1 hx
    have := hp (i + 1) (by simpa using hi)
    simpa [posN] using this
theorem isNm_no (l : List UInt8) (i : Nat) (h : i < l.length) (hp : posN i l[i] = false) : isNm l = false := by
  cases l with
  | nil => rfl
  | cons c r =>
    cases i with
    | zero => simp only [List.getElem_cons_zero, posN, if_true] at hp; simp [isNm, hp]
    | succ i =>
      simp only [List.getElem_cons_succ, posN] at hp
      have : r.all nmc = false := by rw [List.all_eq_false]; exact ⟨r[i]'(by simpa using h), List.getElem_mem _, by simpa using hp⟩
      simp [isNm, this]
theorem isNm_long (l : List UInt8) (h : 20 < l.length ∨ l = []) : isNm l = false := by
  cases l with
  | nil => rfl
  | cons c r =>
    rcases h with h | h
    · simp only [List.length_cons] at h
      have : ¬ r.length ≤ 19 := by omega
      simp [isNm, this]
    · cases h

set_option maxHeartbeats 1000000 in
theorem name_c (l : List UInt8) (hl : l.length ≤ 4611686018427387904) (w : World) : Calls Tryz.prog 47 #[.string ⟨l.toArray⟩] w fun e w' => e = .returned (.bool (isNm l)) ∧ w = w' := by
  go_enter Tryz.func47, Tryz.ntmps47
  go_wp2
  go_loop [7] (fun i => ∃ k : Nat, k ≤ l.length ∧ i = .int .i64 k ∧ Hid (∀ i (h : i < l.length), i < k → posN i l[i] = true)) (fun i => l.length - (intOf i).toNat)
  case atStart => exact ⟨0, Nat.zero_le _, rfl, Lib.hid (fun i _ h => by omega)⟩
  case round =>
    obtain ⟨k, hk, rfl, HP⟩ := hrel
    by_cases hlt : k < l.length
    · have hc := u8_lt l[k]
      have hcase : ((97 : Int) ≤ (l[k].toNat : Int) ∧ (l[k].toNat : Int) ≤ 122) ∨ ((l[k].toNat : Int) < 97 ∧ ((k : Int) == 0) = true) ∨ ((122 : Int) < (l[k].toNat : Int) ∧ ((k : Int) == 0) = true) ∨ (((l[k].toNat : Int) < 48 ∧ ((l[k].toNat : Int) != 45) = true) ∧ ((k : Int) == 0) = false) ∨ ((l[k].toNat : Int) = 45 ∧ ((k : Int) == 0) = false) ∨ (((48 : Int) ≤ (l[k].toNat : Int) ∧ (l[k].toNat : Int) ≤ 57) ∧ ((k : Int) == 0) = false) ∨ (((57 : Int) < (l[k].toNat : Int) ∧ (l[k].toNat : Int) < 97) ∧ ((k : Int) == 0) = false) ∨ ((122 : Int) < (l[k].toNat : Int) ∧ ((k : Int) == 0) = false) := by
        simp only [beq_iff_eq, beq_eq_false_iff_ne, bne_iff_ne, ne_eq]; omega
      rcases hcase with ⟨c1, c2⟩ | ⟨c1, c2⟩ | ⟨c1, c2⟩ | ⟨⟨c1, c2⟩, c3⟩ | ⟨c1, c2⟩ | ⟨⟨c1, c2⟩, c3⟩ | ⟨⟨c1, c2⟩, c3⟩ | ⟨c1, c2⟩
      all_goals
        have HQ := Lib.hid (And.intro c1 c2)
        try have HQ3 := Lib.hid c3
        go_wp2
        all_goals first
          | (exfalso
             simp only [Bool.not_eq_false', Bool.not_eq_true', decide_eq_true_eq, decide_eq_false_iff_not, bne_eq_false_iff_eq, bne_iff_ne, beq_iff_eq, beq_eq_false_iff_ne, ne_eq] at *
             omega)
          | (go_round
             case rel =>
               refine ⟨k + 1, by omega, by go_num, Lib.hid (fun i h hi => ?_)⟩
               by_cases e : i = k
               · subst e
                 have hq := HQ.out
                 try have hq3 := HQ3.out
                 try simp only [beq_eq_false_iff_ne, ne_eq] at hq
                 try simp only [beq_eq_false_iff_ne, ne_eq] at hq3
                 rw [posN_iff]; omega
               · exact HP.out i h (by omega)
             case measure => simp [intOf]; omega)
          | (go_ret
             have hq := HQ.out
             try have hq3 := HQ3.out
             try simp only [beq_iff_eq, beq_eq_false_iff_ne, bne_iff_ne, ne_eq] at hq
             try simp only [beq_eq_false_iff_ne, ne_eq] at hq3
             exact ⟨ret_bool (isNm_no l k hlt (posN_no (by omega))).symm, rfl⟩)
    · by_cases h0 : l = []
      · subst h0
        go_wp2
        go_ret
        exact ⟨rfl, rfl⟩
      · have hne : l.isEmpty = false := by cases l <;> simp_all
        have HE := Lib.hid h0
        by_cases h20 : l.length ≤ 20
        · have HN := Lib.hid (isNm_pos l (fun i h => HP.out i h (by omega)) h20 h0)
          have h20' : (l.length : Int) ≤ 20 := by omega
          go_wp2
          go_ret
          exact ⟨by rw [HN.out]; exact ret_bool (by have := HE.out; simp [] <;> omega), rfl⟩
        · have HN := Lib.hid (isNm_long l (Or.inl (by omega)))
          go_wp2
          go_ret
          exact ⟨by rw [HN.out]; exact ret_bool (by have := HE.out; simp [] <;> omega), rfl⟩
set_option maxHeartbeats 1000000 in
theorem isName_c (l : List UInt8) (hl : l.length ≤ 4611686018427387904) (w : World) : Calls Tryz.prog 21 #[.string ⟨l.toArray⟩] w fun e w' => e = .returned (.bool (isNm l)) ∧ w = w' := by
  by_cases h20 : 1 ≤ l.length ∧ l.length ≤ 20
  · obtain ⟨h1, h2⟩ := h20
    have h1' : (1 : Int) ≤ (l.length : Int) := by omega
    have h2' : (l.length : Int) ≤ 20 := by omega
    go_enter Tryz.func21, Tryz.ntmps21
    go_wp2_with (go_at_call 20; refine (between_c _ _ _ _).mono ?_; rintro e w' ⟨rfl, rfl⟩)
    go_loop [3] (fun i => ∃ k : Nat, k ≤ l.length ∧ i = .int .i64 k ∧ Hid (∀ i (h : i < l.length), i < k → posN i l[i] = true)) (fun i => l.length - (intOf i).toNat)
    case atStart => exact ⟨0, Nat.zero_le _, rfl, Lib.hid (fun i _ h => by omega)⟩
    case round =>
      obtain ⟨k, hk, rfl, HP⟩ := hrel
      by_cases hlt : k < l.length
      · have hc := u8_lt l[k]
        have hcase : ((97 : Int) ≤ (l[k].toNat : Int) ∧ (l[k].toNat : Int) ≤ 122) ∨ ((l[k].toNat : Int) < 97 ∧ ((k : Int) == 0) = true) ∨ ((122 : Int) < (l[k].toNat : Int) ∧ ((k : Int) == 0) = true) ∨ (((l[k].toNat : Int) < 48 ∧ ((l[k].toNat : Int) != 45) = true) ∧ ((k : Int) == 0) = false) ∨ ((l[k].toNat : Int) = 45 ∧ ((k : Int) == 0) = false) ∨ (((48 : Int) ≤ (l[k].toNat : Int) ∧ (l[k].toNat : Int) ≤ 57) ∧ ((k : Int) == 0) = false) ∨ (((57 : Int) < (l[k].toNat : Int) ∧ (l[k].toNat : Int) < 97) ∧ ((k : Int) == 0) = false) ∨ ((122 : Int) < (l[k].toNat : Int) ∧ ((k : Int) == 0) = false) := by
          simp only [beq_iff_eq, beq_eq_false_iff_ne, bne_iff_ne, ne_eq]; omega
        rcases hcase with ⟨c1, c2⟩ | ⟨c1, c2⟩ | ⟨c1, c2⟩ | ⟨⟨c1, c2⟩, c3⟩ | ⟨c1, c2⟩ | ⟨⟨c1, c2⟩, c3⟩ | ⟨⟨c1, c2⟩, c3⟩ | ⟨c1, c2⟩
        all_goals
          have HQ := Lib.hid (And.intro c1 c2)
          try have HQ3 := Lib.hid c3
          go_wp2_with (go_at_call 20; refine (between_c _ _ _ _).mono ?_; rintro e w' ⟨rfl, rfl⟩)
          all_goals first
            | (exfalso
               simp only [Bool.not_eq_false', Bool.not_eq_true', decide_eq_true_eq, decide_eq_false_iff_not, bne_eq_false_iff_eq, bne_iff_ne, beq_iff_eq, beq_eq_false_iff_ne, ne_eq] at *
               omega)
            | (go_round
               case rel =>
                 refine ⟨k + 1, by omega, by go_num, Lib.hid (fun i h hi => ?_)⟩
                 by_cases e : i = k
                 · subst e
                   have hq := HQ.out
                   try have hq3 := HQ3.out
                   try simp only [beq_eq_false_iff_ne, ne_eq] at hq
                   try simp only [beq_eq_false_iff_ne, ne_eq] at hq3
                   rw [posN_iff]; omega
                 · exact HP.out i h (by omega)
               case measure => simp [intOf]; omega)
            | (go_ret
               have hq := HQ.out
               try have hq3 := HQ3.out
               try simp only [beq_iff_eq, beq_eq_false_iff_ne, bne_iff_ne, ne_eq] at hq
               try simp only [beq_eq_false_iff_ne, ne_eq] at hq3
               exact ⟨ret_bool (isNm_no l k hlt (posN_no (by omega))).symm, rfl⟩)
      · have HN := Lib.hid (isNm_pos l (fun i h => HP.out i h (by omega)) h2 (by rintro rfl; simp at h1))
        go_wp2
        go_ret
        exact ⟨by rw [HN.out]; rfl, rfl⟩
  · have HN := Lib.hid (isNm_long l (by
      rcases Nat.lt_or_ge 20 l.length with h | h
      · exact Or.inl h
      · exact Or.inr (List.eq_nil_of_length_eq_zero (by omega))))
    have h20' : (decide ((1 : Int) ≤ (l.length : Int)) && decide ((l.length : Int) ≤ 20)) = false := by
      cases h : (decide ((1 : Int) ≤ (l.length : Int)) && decide ((l.length : Int) ≤ 20))
      · rfl
      · simp only [Bool.and_eq_true, decide_eq_true_eq] at h; omega
    have H20 := Lib.hid h20
    clear h20
    go_enter Tryz.func21, Tryz.ntmps21
    go_wp2_with (go_at_call 20; refine (between_c _ _ _ _).mono ?_; rintro e w' ⟨rfl, rfl⟩)
    all_goals first
      | (go_ret
         exact ⟨by rw [HN.out]; rfl, rfl⟩)
      | (exfalso; have := H20.out; omega)
end Go.Proofs.YtoaecehkmoehjaaGreatDoor

namespace Go.Proofs.YtoaecehkmoehjaaGreatDoor
open Go.RowKit

def putc (c : UInt8) : List UInt8 :=
  if (c.toNat : Int) = 38 then [38, 97, 109, 112, 59] else if (c.toNat : Int) = 60 then [38, 108, 116, 59] else if (c.toNat : Int) = 62 then [38, 103, 116, 59] else if (c.toNat : Int) = 34 then [38, 113, 117, 111, 116, 59] else [c]
def PutL (l : List UInt8) : List UInt8 := l.flatMap putc
theorem putc_len (c : UInt8) : (putc c).length ≤ 6 := by
  unfold putc; (repeat' split) <;> simp
theorem PutL_len (l : List UInt8) : (PutL l).length ≤ 6 * l.length := by
  induction l with
  | nil => simp [PutL]
  | cons c l ih => have := putc_len c; simp only [PutL, List.flatMap_cons, List.length_append, List.length_cons] at *; omega
theorem PutL_snoc (l : List UInt8) (c : UInt8) : PutL (l ++ [c]) = PutL l ++ putc c := by simp [PutL]
theorem take_one (l : List UInt8) (k : Nat) (h : k < l.length) : List.take 1 (List.drop k l) = [l[k]] := by
  rw [List.drop_eq_getElem_cons h]; rfl

set_option maxHeartbeats 1000000 in
theorem putOf_c (l : List UInt8) (hl : l.length ≤ 1099511627776) (w : World) :
    Calls Tryz.prog 31 #[.string ⟨l.toArray⟩] w fun e w' => e = .returned (.string ⟨(PutL l).toArray⟩) ∧ w = w' := by
  go_enter Tryz.func31, Tryz.ntmps31
  go_wp2
  go_loop [3, 4] (fun o i => ∃ k : Nat, k ≤ l.length ∧ o = .string ⟨(PutL (l.take k)).toArray⟩ ∧ i = .int .i64 k) (fun _ i => l.length - (intOf i).toNat)
  case atStart => exact ⟨0, Nat.zero_le _, rfl, rfl⟩
  case round =>
    obtain ⟨k, hk, rfl, rfl⟩ := hrel
    by_cases hlt : k < l.length
    · have hb := u8_lt l[k]
      have hP := PutL_len (l.take k)
      have ht : (l.take k).length ≤ k := List.length_take_le _ _
      have HS := Lib.hid (PutL_snoc (l.take k) l[k])
      have HT := Lib.hid (take_snoc l k hlt)
      have hlt1 : k + 1 ≤ l.length := by omega
      have hlt2 : (k : Int) + 1 ≤ l.length := by omega
      go_wp2
      all_goals
        go_round
        case rel => exact ⟨k + 1, by omega, by rw [HT.out, HS.out]; simp_all [putc, take_one], by go_num⟩
        case measure => simp [intOf]; omega
    · go_wp2
      go_ret
      exact ⟨by rw [List.take_of_length_le (by omega)]; rfl, rfl⟩

theorem long_c (l : List UInt8) (w : World) :
    Calls Tryz.prog 38 #[.string ⟨l.toArray⟩] w fun e w' => e = .returned (.bool (decide (3000 < l.length))) ∧ w = w' := by
  go_enter Tryz.func38, Tryz.ntmps38
  go_wp2
  go_ret
  exact ⟨ret_bool (by simp <;> omega), rfl⟩
def tooL (l : List UInt8) : Int := if 3000 < l.length then 2 else 0
theorem tooLong_c (l : List UInt8) (w : World) :
    Calls Tryz.prog 9 #[.string ⟨l.toArray⟩] w fun e w' => e = .returned (.int .i64 (tooL l)) ∧ w = w' := by
  go_enter Tryz.func9, Tryz.ntmps9
  go_wp2
  all_goals
    go_ret
    exact ⟨ret_int (by unfold tooL; split <;> omega), rfl⟩
end Go.Proofs.YtoaecehkmoehjaaGreatDoor

/- Tokens: memory; kinds of bytes, small letters, names: program and reference. -/
import Derived.Test.YtoaecehkmoehjaaGreatDoorTokZ
import Derived.Test.YtoaecehkmoehjaaGreatDoorRefA
import Derived.Laws.AppendOwn
import Derived.OwnWalk
import Derived.Deep.QuietTactic
import Derived.BigQuiet
import Derived.RegionTactic
namespace Go.Proofs.YtoaecehkmoehjaaGreatDoor
open Go.RowKit

theorem gb_refl (b : Option Nat) (w : World) : w.grownBy w b := ⟨rfl, rfl, rfl, Nat.le_refl _, fun _ _ _ => rfl⟩
theorem gb_trans {b : Option Nat} {x y z : World} (h : x.grownBy y b) (k : y.grownBy z b) : x.grownBy z b :=
  ⟨k.os.trans h.os, k.tape.trans h.tape, k.output.trans h.output, Nat.le_trans h.size k.size, fun i hi hne => (k.block i (Nat.lt_of_lt_of_le hi h.size) hne).trans (h.block i hi hne)⟩
theorem gb_bl {b : Option Nat} {w w' : World} (h : Bl w w') : w.grownBy w' b := ⟨Below.os h, Below.tape h, Below.output h, Below.size h, fun k hk _ => Below.block h k hk⟩
theorem gb_set {b : Nat} {x w : World} (h : x.grownBy w (some b)) (o : Nat) (v : Value) : x.grownBy (w.setCell ⟨b, o, none⟩ v) (some b) :=
  ⟨h.os, h.tape, h.output, by simpa using h.size, fun k hk hne => (Below.heap_setCell w ⟨b, o, none⟩ v k (by rintro rfl; exact hne rfl)).trans (h.block k hk hne)⟩
theorem gb_drewN {b : Option Nat} {x w : World} (h : x.grownBy w b) (n : Nat) : x.grownBy (w.drewN n) b := gb_trans h (gb_bl ((Bl.refl _).drewN n))
theorem gb_qt {b : Option Nat} {w w' : World} (h : Qt w w') : w.grownBy w' b := gb_bl h.bl
theorem bl_of_gb {w w' : World} (h : w.grownBy w' none) : Bl w w' := ⟨h.os, h.tape, h.output, h.size, fun k hk => h.block k hk (by simp)⟩

/-- The reader: its text, where it stands, the text since the last tag, what has come out. -/
def Rk (w : World) (b : Nat) (s : List UInt8) (k : Nat) (x : List UInt8) (v : Value) : Prop :=
  w.heap[b]? = some (.cells #[.string ⟨s.toArray⟩, .int .i64 (k : Int), .string ⟨x.toArray⟩, v] 59 (0, 0))
theorem Rk.lt {w : World} {b k : Nat} {s x : List UInt8} {v : Value} (h : Rk w b s k x v) : b < w.heap.size := (Array.getElem?_eq_some_iff.1 h).1
theorem Rk.cells {w : World} {b k : Nat} {s x : List UInt8} {v : Value} (h : Rk w b s k x v) :
    w.cell? ⟨b, 0, none⟩ = some (.string ⟨s.toArray⟩) ∧ w.cell? ⟨b, 1, none⟩ = some (.int .i64 (k : Int)) ∧ w.cell? ⟨b, 2, none⟩ = some (.string ⟨x.toArray⟩) ∧ w.cell? ⟨b, 3, none⟩ = some v ∧
    w.frozen? ⟨b, 0, none⟩ = false ∧ w.frozen? ⟨b, 1, none⟩ = false ∧ w.frozen? ⟨b, 2, none⟩ = false ∧ w.frozen? ⟨b, 3, none⟩ = false := by
  unfold Rk at h
  simp [World.cell?, World.frozen?, h]
theorem Rk.of_bl {w w' : World} {b k : Nat} {s x : List UInt8} {v : Value} (h : Rk w b s k x v) (hb : Bl w w') : Rk w' b s k x v := by
  have := h.lt
  unfold Rk at *; rw [Below.block hb b this, h]
theorem Rk.set1 {w : World} {b k : Nat} {s x : List UInt8} {v : Value} (h : Rk w b s k x v) (j : Nat) : Rk (w.setCell ⟨b, 1, none⟩ (.int .i64 (j : Int))) b s j x v := by
  unfold Rk at *
  simp [World.setCell, h, Array.getElem?_modify]
theorem Rk.seti {w : World} {b k : Nat} {s x : List UInt8} {v : Value} (h : Rk w b s k x v) {n : Int} {j : Nat} (e : n = (j : Int)) : Rk (w.setCell ⟨b, 1, none⟩ (.int .i64 n)) b s j x v := by
  subst e; exact h.set1 j
theorem Rk.set2 {w : World} {b k : Nat} {s x : List UInt8} {v : Value} (h : Rk w b s k x v) (y : List UInt8) : Rk (w.setCell ⟨b, 2, none⟩ (.string ⟨y.toArray⟩)) b s k y v := by
  unfold Rk at *
  simp [World.setCell, h, Array.getElem?_modify]
theorem Rk.set3 {w : World} {b k : Nat} {s x : List UInt8} {v : Value} (h : Rk w b s k x v) (u : Value) : Rk (w.setCell ⟨b, 3, none⟩ u) b s k x u := by
  unfold Rk at *
  simp [World.setCell, h, Array.getElem?_modify]
theorem Rk.of_gb {w w' : World} {b k : Nat} {s x : List UInt8} {v : Value} {g : Option Nat} (h : Rk w b s k x v) (hg : w.grownBy w' g) (hne : some b ≠ g) : Rk w' b s k x v := by
  have := h.lt
  unfold Rk at *; rw [hg.block b this hne, h]
def atOf (b : Nat) (w : World) : Nat := match w.cell? ⟨b, 1, none⟩ with | some v => (intOf v).toNat | none => 0
theorem Rk.at_eq {w : World} {b k : Nat} {s x : List UInt8} {v : Value} (h : Rk w b s k x v) : atOf b w = k := by unfold atOf; rw [h.cells.2.1]; simp [intOf]

theorem white_c (c : UInt8) (w : World) : Calls Tryz.prog 83 #[.int .u8 (c.toNat : Int)] w fun e w' => e = .returned (.bool (wht c)) ∧ w = w' := by
  go_enter Tryz.func83, Tryz.ntmps83
  go_wp2
  all_goals
    go_ret
    exact ⟨ret_bool (by rw [Bool.eq_iff_iff]; simp [wht]; omega), rfl⟩
theorem letter_c (c : UInt8) (w : World) : Calls Tryz.prog 80 #[.int .u8 (c.toNat : Int)] w fun e w' => e = .returned (.bool (ltr c)) ∧ w = w' := by
  go_enter Tryz.func80, Tryz.ntmps80
  go_wp2
  all_goals
    go_ret
    exact ⟨ret_bool (by rw [Bool.eq_iff_iff]; simp [ltr, lwr]; omega), rfl⟩
theorem isWhite_c (c : UInt8) (w : World) : Calls Tryz.prog 27 #[.int .u8 (c.toNat : Int)] w fun e w' => e = .returned (.bool (wht c)) ∧ w = w' := by
  have := u8_lt c
  go_enter Tryz.func27, Tryz.ntmps27
  go_wp2_with (go_at_call 20; refine (between_c _ _ _ _).mono ?_; rintro e w' ⟨rfl, rfl⟩)
  all_goals
    go_ret
    exact ⟨ret_bool (by rw [Bool.eq_iff_iff]; simp [wht]; omega), rfl⟩
theorem isLetter_c (c : UInt8) (w : World) : Calls Tryz.prog 25 #[.int .u8 (c.toNat : Int)] w fun e w' => e = .returned (.bool (ltr c)) ∧ w = w' := by
  have := u8_lt c
  go_enter Tryz.func25, Tryz.ntmps25
  go_wp2_with (go_at_call 20; refine (between_c _ _ _ _).mono ?_; rintro e w' ⟨rfl, rfl⟩)
  all_goals
    go_ret
    exact ⟨ret_bool (by rw [Bool.eq_iff_iff]; simp [ltr, lwr]; omega), rfl⟩
end Go.Proofs.YtoaecehkmoehjaaGreatDoor

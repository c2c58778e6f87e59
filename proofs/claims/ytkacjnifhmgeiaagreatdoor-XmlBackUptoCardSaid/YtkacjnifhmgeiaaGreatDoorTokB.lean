/- Tokens: memory; kinds of bytes, small letters, names: program and reference. -/
import Derived.Test.YtkacjnifhmgeiaaGreatDoorTokZ
import Derived.Test.YtkacjnifhmgeiaaGreatDoorRefA
import Derived.Laws.AppendOwn
import Derived.OwnWalk
import Derived.Deep.QuietTactic
import Derived.BigQuiet
import Derived.RegionTactic
namespace Go.Proofs.YtkacjnifhmgeiaaGreatDoor
open Go.RowKit

theorem gb_refl (b : Option Nat) (w : World) : w.grownBy w b := ⟨rfl, rfl, rfl, Nat.le_refl _, fun _ _ _ => rfl⟩
theorem gb_trans {b : Option Nat} {x y z : World} (h : x.grownBy y b) (k : y.grownBy z b) : x.grownBy z b :=
  ⟨k.os.trans h.os, k.tape.trans h.tape, k.output.trans h.output, Nat.le_trans h.size k.size, fun i hi hne => (k.block i (Nat.lt_of_lt_of_le hi h.size) hne).trans (h.block i hi hne)⟩
theorem gb_bl {b : Option Nat} {w w' : World} (h : Bl w w') : w.grownBy w' b := ⟨Below.os h, Below.tape h, Below.output h, Below.size h, fun k hk _ => Below.block h k hk⟩
theorem gb_set {b : Nat} {x w : World} (h : x.grownBy w (some b)) (o : Nat) (v : Value) : x.grownBy (w.setCell ⟨b, o, none⟩ v) (some b) :=
  ⟨h.os, h.tape, h.output, by simpa using h.size, fun k hk hne => (Below.heap_setCell w ⟨b, o, none⟩ v k (by rintro rfl; exact hne rfl)).trans (h.block k hk hne)⟩
theorem gb_drewN {b : Option Nat} {x w : World} (h : x.grownBy w b) (n : Nat) : x.grownBy (w.drewN n) b := gb_trans h (gb_bl ((Bl.refl _).drewN n))
theorem gb_qt {b : Option Nat} {w w' : World} (h : Qt w w') : w.grownBy w' b := gb_bl h.bl
theorem bl_of_gb {w w' : World} (h : w.grownBy w' none) : Bl w w' := ⟨h.os, h.tape, h.output, h.size, fun k hk => h.block k hk (by simp)⟩

def atOf (b : Nat) (w : World) : Nat := match w.cell? ⟨b, 1, none⟩ with | some v => (intOf v).toNat | none => 0
theorem isLetter_c (c : UInt8) (w : World) : Calls Tryz.prog 46 #[.int .u8 (c.toNat : Int)] w fun e w' => e = .returned (.bool (ltr c)) ∧ w = w' := by
  have := u8_lt c
  go_enter Tryz.func46, Tryz.ntmps46
  go_wp2_with (go_at_call 65; refine (between_c _ _ _ _).mono ?_; rintro e w' ⟨rfl, rfl⟩)
  all_goals
    go_ret
    exact ⟨ret_bool (by rw [Bool.eq_iff_iff]; simp [ltr, lwr]; omega), rfl⟩
end Go.Proofs.YtkacjnifhmgeiaaGreatDoor

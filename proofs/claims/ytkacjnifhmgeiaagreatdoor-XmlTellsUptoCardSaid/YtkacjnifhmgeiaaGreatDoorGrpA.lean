/- Base of the texts of this seat: imports, the walk's added rules, small words. · Signs that are put: the reference's PutOf; short walks of escape. -/
import Derived.Test.YtkacjnifhmgeiaaGreatDoorChecked
import Derived.WalkKit
import Derived.WalkSpells
import Derived.WalkLawsBesides
import Derived.Lib.Hide
import Derived.Handy
import Derived.Deep.QuietTactic
import Derived.BigQuiet
namespace Go.Proofs.YtkacjnifhmgeiaaGreatDoor
open Go.RowKit

theorem mk_get (l : List UInt8) (k : Nat) (h : k < (ByteArray.mk l.toArray).size) : (ByteArray.mk l.toArray)[k]'h = l[k]'(by simpa [ByteArray.size] using h) := rfl
theorem u8_lt (c : UInt8) : c.toNat < 256 := c.toNat_lt
theorem take_snoc {α : Type} (l : List α) (k : Nat) (h : k < l.length) : l.take (k + 1) = l.take k ++ [l[k]] := by rw [List.take_succ_eq_append_getElem h]
theorem snoc_ind {α : Type} {p : List α → Prop} (h0 : p []) (h1 : ∀ l c, p l → p (l ++ [c])) (l : List α) : p l := by
  suffices h : ∀ l, p (List.reverse l) by have := h l.reverse; simpa using this
  intro l
  induction l with
  | nil => exact h0
  | cons c l ih => rw [List.reverse_cons]; exact h1 _ _ ih
theorem ucons {α : Type} {l : List α} {n : Nat} (h : n + 1 ≤ l.length) : ∃ c t, l = c :: t ∧ n ≤ t.length := by
  cases l with
  | nil => simp at h
  | cons c t => exact ⟨c, t, rfl, by simpa using h⟩
theorem ret_int {k : IntKind} {a b : Int} (h : a = b) : Ending.returned (.int k a) = .returned (.int k b) := by rw [h]
theorem ret_bool {a b : Bool} (h : a = b) : Ending.returned (.bool a) = .returned (.bool b) := by rw [h]

theorem quiet_eq {P : Program} {f : FuncId} {args : Array Value} {w : World} {n : Nat} {v : Value}
    (h : Calls P f args (w.drewN n) fun e w' => e = .returned v ∧ w.drewN n = w') : Calls P f args (w.drewN n) fun e w'' => e = .returned v ∧ ∃ m, w'' = w.drewN m :=
  h.mono fun _ _ ⟨he, hm⟩ => ⟨he, n, hm.symm⟩
/-- Draws alone. -/
def Qt (w w' : World) : Prop := ∃ n, w' = w.drewN n
theorem Qt.refl (w : World) : Qt w w := ⟨0, rfl⟩
theorem Qt.drewN {a b : World} (h : Qt a b) (n : Nat) : Qt a (b.drewN n) := by obtain ⟨m, rfl⟩ := h; exact ⟨m + n, by rw [World.drewN_drewN]⟩
theorem quiet_qt {P : Program} {f : FuncId} {args : Array Value} {w : World} {n : Nat} {v : Value}
    (h : Calls P f args (w.drewN n) fun e w' => e = .returned v ∧ Qt (w.drewN n) w') : Calls P f args (w.drewN n) fun e w'' => e = .returned v ∧ ∃ m, w'' = w.drewN m :=
  Calls.quiet_of h
theorem quiet_eq2 {P : Program} {f : FuncId} {args : Array Value} {w : World} {a n : Nat} {v : Value}
    (h : Calls P f args (w.drewN (a + n)) fun e w' => e = .returned v ∧ w.drewN (a + n) = w') : Calls P f args (w.drewN (a + n)) fun e w'' => e = .returned v ∧ ∃ m, w'' = w.drewN (a + m) :=
  h.mono fun _ _ ⟨he, hm⟩ => ⟨he, n, hm.symm⟩
theorem quiet_qt2 {P : Program} {f : FuncId} {args : Array Value} {w : World} {a n : Nat} {v : Value}
    (h : Calls P f args (w.drewN (a + n)) fun e w' => e = .returned v ∧ Qt (w.drewN (a + n)) w') : Calls P f args (w.drewN (a + n)) fun e w'' => e = .returned v ∧ ∃ m, w'' = w.drewN (a + m) :=
  h.mono fun _ _ ⟨he, m, hm⟩ => ⟨he, n + m, by rw [hm, World.drewN_drewN, Nat.add_assoc]⟩
/-- Nothing that was there is turned; there may be more. -/
def Bl (w w' : World) : Prop := Below w.heap.size w w'
theorem Bl.refl (w : World) : Bl w w := Below.refl _ _
theorem Bl.trans {a b c : World} (h : Bl a b) (k : Bl b c) : Bl a c := Below.trans h (Below.mono k (Below.size h))
theorem Bl.drewN {a b : World} (h : Bl a b) (n : Nat) : Bl a (b.drewN n) := h.trans (below_drewN (Below.refl _ _) n)
theorem Bl.alloc {a b : World} (h : Bl a b) (o : Obj) : Bl a (b.alloc o) := Below.alloc h (Below.size h) o
theorem Qt.bl {a b : World} (h : Qt a b) : Bl a b := by obtain ⟨m, rfl⟩ := h; exact (Bl.refl _).drewN m
theorem Bl.drew {a b : World} (h : Bl a b) : Bl a b.drew := Below.drew h

theorem Bl.cells {W w1 : World} (hb : Bl W w1) : (∀ b o, b < W.heap.size → w1.cell? ⟨b, o, none⟩ = W.cell? ⟨b, o, none⟩) ∧ (∀ b o, b < W.heap.size → w1.frozen? ⟨b, o, none⟩ = W.frozen? ⟨b, o, none⟩) :=
  ⟨fun b o h => Below.cell hb (p := ⟨b, o, none⟩) h, fun b o h => Below.frozen hb (p := ⟨b, o, none⟩) h⟩
theorem take_drop_all {α : Type} (l : List α) (k : Nat) : (l.drop k).take (l.length - k) = l.drop k := List.take_of_length_le (by simp)

attribute [go_sem] Nat.sub_sub take_drop_all List.take_of_length_le mk_get ByteArray.mk_append_mk ByteArray.extract_mk ByteArray.toList_mk

end Go.Proofs.YtkacjnifhmgeiaaGreatDoor

namespace Go.Proofs.YtkacjnifhmgeiaaGreatDoor
open Go.RowKit

def putc (c : UInt8) : List UInt8 :=
  if (c.toNat : Int) = 38 then [38, 97, 109, 112, 59] else if (c.toNat : Int) = 60 then [38, 108, 116, 59] else if (c.toNat : Int) = 62 then [38, 103, 116, 59] else if (c.toNat : Int) = 34 then [38, 113, 117, 111, 116, 59] else [c]
def PutL (l : List UInt8) : List UInt8 := l.flatMap putc
theorem putc_len (c : UInt8) : (putc c).length ≤ 6 := by
  unfold putc; (repeat' split) <;> simp
theorem PutL_len (l : List UInt8) : (PutL l).length ≤ 6 * l.length := by
  induction l with
  | nil => simp [PutL]
  | cons c l ih => have := putc_len c; simp only [PutL, List.flatMap_cons, List.length_append, List.length_cons] at *; omega
theorem PutL_snoc (l : List UInt8) (c : UInt8) : PutL (l ++ [c]) = PutL l ++ putc c := by simp [PutL]
theorem take_one (l : List UInt8) (k : Nat) (h : k < l.length) : List.take 1 (List.drop k l) = [l[k]] := by
  rw [List.drop_eq_getElem_cons h]; rfl

set_option maxHeartbeats 1000000 in
theorem putOf_c (l : List UInt8) (hl : l.length ≤ 1099511627776) (w : World) :
    Calls Tryz.prog 24 #[.string ⟨l.toArray⟩] w fun e w' => e = .returned (.string ⟨(PutL l).toArray⟩) ∧ w = w' := by
  go_enter Tryz.func24, Tryz.ntmps24
  go_wp2
  go_loop [3, 4] (fun o i => ∃ k : Nat, k ≤ l.length ∧ o = .string ⟨(PutL (l.take k)).toArray⟩ ∧ i = .int .i64 k) (fun _ i => l.length - (intOf i).toNat)
  case atStart => exact ⟨0, Nat.zero_le _, rfl, rfl⟩
  case round =>
    obtain ⟨k, hk, rfl, rfl⟩ := hrel
    by_cases hlt : k < l.length
    · have hb := u8_lt l[k]
      have hP := PutL_len (l.take k)
      have ht : (l.take k).length ≤ k := List.length_take_le _ _
      have HS := Lib.hid (PutL_snoc (l.take k) l[k])
      have HT := Lib.hid (take_snoc l k hlt)
      have hlt1 : k + 1 ≤ l.length := by omega
      have hlt2 : (k : Int) + 1 ≤ l.length := by omega
      go_wp2
      all_goals
        go_round
        case rel => exact ⟨k + 1, by omega, by rw [HT.out, HS.out]; simp_all [putc, take_one], by go_num⟩
        case measure => simp [intOf]; omega
    · go_wp2
      go_ret
      exact ⟨by rw [List.take_of_length_le (by omega)]; rfl, rfl⟩

theorem long_c (l : List UInt8) (w : World) :
    Calls Tryz.prog 32 #[.string ⟨l.toArray⟩] w fun e w' => e = .returned (.bool (decide (3000 < l.length))) ∧ w = w' := by
  go_enter Tryz.func32, Tryz.ntmps32
  go_wp2
  go_ret
  exact ⟨ret_bool (by simp <;> omega), rfl⟩
def tooL (l : List UInt8) : Int := if 3000 < l.length then 2 else 0
theorem tooLong_c (l : List UInt8) (w : World) :
    Calls Tryz.prog 8 #[.string ⟨l.toArray⟩] w fun e w' => e = .returned (.int .i64 (tooL l)) ∧ w = w' := by
  go_enter Tryz.func8, Tryz.ntmps8
  go_wp2
  all_goals
    go_ret
    exact ⟨ret_int (by unfold tooL; split <;> omega), rfl⟩
end Go.Proofs.YtkacjnifhmgeiaaGreatDoor

/- Tokens: the closures that tell kinds of bytes; need, begins, letterAt, to, Folded. -/
import Derived.Test.YtoaecehkmoehjaaGreatDoorTokC
namespace Go.Proofs.YtoaecehkmoehjaaGreatDoor
open Go.RowKit

def is61 (c : UInt8) : Bool := decide (c.toNat = 61)
def not60 (c : UInt8) : Bool := decide (c.toNat ≠ 60)
def isq (c : UInt8) : Bool := decide (c.toNat = 34) || decide (c.toNat = 39)
def Tr : World → Prop := fun _ => True

theorem cf_white : ∀ (args : Array Value) (W : World), Sem.run Tryz.prog (callFunc 83 args) W = .ok (.enter 83 args) W := by
  intro args W
  simp [callFunc, go_sem, Tryz.func83, Tryz.f83]
theorem do_white : Do 83 #[] wht Tr := ⟨cf_white, fun c W _ => (white_c c W).mono fun _ _ ⟨h, hw⟩ => ⟨h, hw ▸ Qt.refl _⟩, fun _ _ _ _ => trivial⟩
theorem cf_a1 : ∀ (args : Array Value) (W : World), Sem.run Tryz.prog (callFunc 96 args) W = .ok (.enter 96 args) W := by
  intro args W
  simp [callFunc, go_sem, Tryz.func96, Tryz.f96]
theorem clo_a1 (c : UInt8) (w : World) : Calls Tryz.prog 96 #[.int .u8 (c.toNat : Int)] w fun e w' => e = .returned (.bool (wsl c)) ∧ w = w' := by
  cases hW : wht c
  all_goals

    have WC := white_c c
    rw [hW] at WC
    have HW := Lib.hid hW
    have HC := Lib.hid WC
    clear hW WC
    go_enter Tryz.func96, Tryz.ntmps96
    go_wp2_with (go_at_call 83; refine (HC.out _).mono ?_; rintro e w' ⟨rfl, rfl⟩)
    all_goals
      go_ret
      exact ⟨ret_bool (by rw [Bool.eq_iff_iff]; simp [wsl, HW.out] <;> omega), rfl⟩
theorem do_a1 : Do 96 #[] wsl Tr := ⟨cf_a1, fun c W _ => (clo_a1 c W).mono fun _ _ ⟨h, hw⟩ => ⟨h, hw ▸ Qt.refl _⟩, fun _ _ _ _ => trivial⟩
theorem cf_a2 : ∀ (args : Array Value) (W : World), Sem.run Tryz.prog (callFunc 98 args) W = .ok (.enter 98 args) W := by
  intro args W
  simp [callFunc, go_sem, Tryz.func98, Tryz.f98]
theorem clo_a2 (c : UInt8) (w : World) : Calls Tryz.prog 98 #[.int .u8 (c.toNat : Int)] w fun e w' => e = .returned (.bool (nch c)) ∧ w = w' := by
  cases hW : wht c
  all_goals

    have WC := white_c c
    rw [hW] at WC
    have HW := Lib.hid hW
    have HC := Lib.hid WC
    clear hW WC
    go_enter Tryz.func98, Tryz.ntmps98
    go_wp2_with (go_at_call 83; refine (HC.out _).mono ?_; rintro e w' ⟨rfl, rfl⟩)
    all_goals
      go_ret
      exact ⟨ret_bool (by rw [Bool.eq_iff_iff]; simp [nch, HW.out] <;> omega), rfl⟩
theorem do_a2 : Do 98 #[] nch Tr := ⟨cf_a2, fun c W _ => (clo_a2 c W).mono fun _ _ ⟨h, hw⟩ => ⟨h, hw ▸ Qt.refl _⟩, fun _ _ _ _ => trivial⟩
theorem cf_a3 : ∀ (args : Array Value) (W : World), Sem.run Tryz.prog (callFunc 99 args) W = .ok (.enter 99 args) W := by
  intro args W
  simp [callFunc, go_sem, Tryz.func99, Tryz.f99]
theorem clo_a3 (c : UInt8) (w : World) : Calls Tryz.prog 99 #[.int .u8 (c.toNat : Int)] w fun e w' => e = .returned (.bool (is61 c)) ∧ w = w' := by

  go_enter Tryz.func99, Tryz.ntmps99
  go_wp2
  all_goals
    go_ret
    exact ⟨ret_bool (by rw [Bool.eq_iff_iff]; simp [is61] <;> omega), rfl⟩
theorem do_a3 : Do 99 #[] is61 Tr := ⟨cf_a3, fun c W _ => (clo_a3 c W).mono fun _ _ ⟨h, hw⟩ => ⟨h, hw ▸ Qt.refl _⟩, fun _ _ _ _ => trivial⟩
theorem cf_t1 : ∀ (args : Array Value) (W : World), Sem.run Tryz.prog (callFunc 82 args) W = .ok (.enter 82 args) W := by
  intro args W
  simp [callFunc, go_sem, Tryz.func82, Tryz.f82]
theorem clo_t1 (c : UInt8) (w : World) : Calls Tryz.prog 82 #[.int .u8 (c.toNat : Int)] w fun e w' => e = .returned (.bool (tch c)) ∧ w = w' := by
  cases hW : wht c
  all_goals

    have WC := white_c c
    rw [hW] at WC
    have HW := Lib.hid hW
    have HC := Lib.hid WC
    clear hW WC
    go_enter Tryz.func82, Tryz.ntmps82
    go_wp2_with (go_at_call 83; refine (HC.out _).mono ?_; rintro e w' ⟨rfl, rfl⟩)
    all_goals
      go_ret
      exact ⟨ret_bool (by rw [Bool.eq_iff_iff]; simp [tch, HW.out] <;> omega), rfl⟩
theorem do_t1 : Do 82 #[] tch Tr := ⟨cf_t1, fun c W _ => (clo_t1 c W).mono fun _ _ ⟨h, hw⟩ => ⟨h, hw ▸ Qt.refl _⟩, fun _ _ _ _ => trivial⟩
theorem cf_s1 : ∀ (args : Array Value) (W : World), Sem.run Tryz.prog (callFunc 65 args) W = .ok (.enter 65 args) W := by
  intro args W
  simp [callFunc, go_sem, Tryz.func65, Tryz.f65]
theorem clo_s1 (c : UInt8) (w : World) : Calls Tryz.prog 65 #[.int .u8 (c.toNat : Int)] w fun e w' => e = .returned (.bool (not60 c)) ∧ w = w' := by

  go_enter Tryz.func65, Tryz.ntmps65
  go_wp2
  all_goals
    go_ret
    exact ⟨ret_bool (by rw [Bool.eq_iff_iff]; simp [not60] <;> omega), rfl⟩
theorem do_s1 : Do 65 #[] not60 Tr := ⟨cf_s1, fun c W _ => (clo_s1 c W).mono fun _ _ ⟨h, hw⟩ => ⟨h, hw ▸ Qt.refl _⟩, fun _ _ _ _ => trivial⟩
theorem cf_v1 : ∀ (args : Array Value) (W : World), Sem.run Tryz.prog (callFunc 114 args) W = .ok (.enter 114 args) W := by
  intro args W
  simp [callFunc, go_sem, Tryz.func114, Tryz.f114]
theorem clo_v1 (c : UInt8) (w : World) : Calls Tryz.prog 114 #[.int .u8 (c.toNat : Int)] w fun e w' => e = .returned (.bool (isq c)) ∧ w = w' := by

  go_enter Tryz.func114, Tryz.ntmps114
  go_wp2
  all_goals
    go_ret
    exact ⟨ret_bool (by rw [Bool.eq_iff_iff]; simp [isq] <;> omega), rfl⟩
theorem do_v1 : Do 114 #[] isq Tr := ⟨cf_v1, fun c W _ => (clo_v1 c W).mono fun _ _ ⟨h, hw⟩ => ⟨h, hw ▸ Qt.refl _⟩, fun _ _ _ _ => trivial⟩
theorem cf_v3 : ∀ (args : Array Value) (W : World), Sem.run Tryz.prog (callFunc 116 args) W = .ok (.enter 116 args) W := by
  intro args W
  simp [callFunc, go_sem, Tryz.func116, Tryz.f116]
theorem clo_v3 (c : UInt8) (w : World) : Calls Tryz.prog 116 #[.int .u8 (c.toNat : Int)] w fun e w' => e = .returned (.bool (vch c)) ∧ w = w' := by
  cases hW : wht c
  all_goals

    have WC := white_c c
    rw [hW] at WC
    have HW := Lib.hid hW
    have HC := Lib.hid WC
    clear hW WC
    go_enter Tryz.func116, Tryz.ntmps116
    go_wp2_with (go_at_call 83; refine (HC.out _).mono ?_; rintro e w' ⟨rfl, rfl⟩)
    all_goals
      go_ret
      exact ⟨ret_bool (by rw [Bool.eq_iff_iff]; simp [vch, HW.out] <;> omega), rfl⟩
theorem do_v3 : Do 116 #[] vch Tr := ⟨cf_v3, fun c W _ => (clo_v3 c W).mono fun _ _ ⟨h, hw⟩ => ⟨h, hw ▸ Qt.refl _⟩, fun _ _ _ _ => trivial⟩
theorem Tr2 (b : Nat) : ∀ W u, Tr W → Tr (W.setCell ⟨b, 1, none⟩ u) := fun _ _ _ => trivial

/-- What a reader gives up with. -/
def OPN : List PanicEntry := [{ v := .iface 74 (.agg #[]), recovered := false }]
set_option maxHeartbeats 1000000 in
theorem need_no (b : Nat) (s x : List UInt8) (v : Value) (w : World) (hR : Rk w b s s.length x v) :
    Calls Tryz.prog 97 #[.pointer (some ⟨b, 0, none⟩)] w fun e w' => e = .panicked OPN ∧ Qt w w' := by
  obtain ⟨c0, c1, c2, c3, f0, f1, f2, f3⟩ := hR.cells
  clear hR
  go_enter Tryz.func97, Tryz.ntmps97
  go_wp2_with (go_quiet (fail))
  exact ⟨rfl, rfl, (Qt.refl _).drewN _⟩
set_option maxHeartbeats 1000000 in
theorem need_yes (b k : Nat) (s x : List UInt8) (v : Value) (w : World) (hR : Rk w b s k x v) (hk : k < s.length) (hs : s.length ≤ 1099511627776) :
    Calls Tryz.prog 97 #[.pointer (some ⟨b, 0, none⟩)] w fun e w' => e = .returned (.int .u8 (s[k].toNat : Int)) ∧ Rk w' b s (k + 1) x v ∧ w.grownBy w' (some b) := by
  obtain ⟨c0, c1, c2, c3, f0, f1, f2, f3⟩ := hR.cells
  have hne : ((k : Int) == (s.length : Int)) = false := by simp; omega
  have hk' : (k : Int) < (s.length : Int) := by omega
  go_enter Tryz.func97, Tryz.ntmps97
  go_wp2_with (go_quiet (fail))
  go_ret
  exact ⟨rfl, (((hR.of_bl ((Bl.refl _).drewN _)).seti (by omega)).of_bl ((Bl.refl _).drewN _)), gb_drewN (gb_set (gb_drewN (gb_refl _ _) _) _ _) _⟩
end Go.Proofs.YtoaecehkmoehjaaGreatDoor

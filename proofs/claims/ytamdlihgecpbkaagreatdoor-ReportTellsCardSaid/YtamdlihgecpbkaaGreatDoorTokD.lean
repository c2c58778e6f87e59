/- Tokens: the closures that tell kinds of bytes; need, begins, letterAt, to, Folded. -/
import Derived.Test.YtamdlihgecpbkaaGreatDoorGrpE
set_option maxHeartbeats 1000000
namespace Go.Proofs.YtamdlihgecpbkaaGreatDoor
open Go.RowKit
def is61 (c : UInt8) : Bool := decide (c.toNat = 61)
def not60 (c : UInt8) : Bool := decide (c.toNat ≠ 60)
def isq (c : UInt8) : Bool := decide (c.toNat = 34) || decide (c.toNat = 39)
def Tr : World → Prop := fun _ => True
theorem cf_white : ∀ (args : Array Value) (W : World), Sem.run Tryz.prog (callFunc 52 args) W = .ok (.enter 52 args) W := by
 intro args W; simp [callFunc, go_sem, Tryz.func52, Tryz.f52]
theorem do_white : Do 52 #[] wht Tr := ⟨cf_white, fun c W _ => (white_c c W).mono fun _ _ ⟨h, hw⟩ => ⟨h, hw ▸ Qt.refl _⟩, fun _ _ _ _ => trivial⟩
theorem cf_a1 : ∀ (args : Array Value) (W : World), Sem.run Tryz.prog (callFunc 198 args) W = .ok (.enter 198 args) W := by
 intro args W; simp [callFunc, go_sem, Tryz.func198, Tryz.f198]
theorem clo_a1 (c : UInt8) (w : World) : Calls Tryz.prog 198 #[.int .u8 (c.toNat : Int)] w fun e w' => e = .returned (.bool (wsl c)) ∧ w = w' := by
 cases hW : wht c; all_goals
  have WC := white_c c; rw [hW] at WC; have HW := Lib.hid hW; have HC := Lib.hid WC; clear hW WC; go_enter Tryz.func198, Tryz.ntmps198; go_wp2_with (go_at_call 52; refine (HC.out _).mono ?_; rintro e w' ⟨rfl, rfl⟩); all_goals
   go_ret; exact ⟨ret_bool (by rw [Bool.eq_iff_iff]; simp [wsl, HW.out] <;> omega), rfl⟩
theorem do_a1 : Do 198 #[] wsl Tr := ⟨cf_a1, fun c W _ => (clo_a1 c W).mono fun _ _ ⟨h, hw⟩ => ⟨h, hw ▸ Qt.refl _⟩, fun _ _ _ _ => trivial⟩
theorem cf_a2 : ∀ (args : Array Value) (W : World), Sem.run Tryz.prog (callFunc 200 args) W = .ok (.enter 200 args) W := by
 intro args W; simp [callFunc, go_sem, Tryz.func200, Tryz.f200]
theorem clo_a2 (c : UInt8) (w : World) : Calls Tryz.prog 200 #[.int .u8 (c.toNat : Int)] w fun e w' => e = .returned (.bool (nch c)) ∧ w = w' := by
 cases hW : wht c; all_goals
  have WC := white_c c; rw [hW] at WC; have HW := Lib.hid hW; have HC := Lib.hid WC; clear hW WC; go_enter Tryz.func200, Tryz.ntmps200; go_wp2_with (go_at_call 52; refine (HC.out _).mono ?_; rintro e w' ⟨rfl, rfl⟩); all_goals
   go_ret; exact ⟨ret_bool (by rw [Bool.eq_iff_iff]; simp [nch, HW.out] <;> omega), rfl⟩
theorem do_a2 : Do 200 #[] nch Tr := ⟨cf_a2, fun c W _ => (clo_a2 c W).mono fun _ _ ⟨h, hw⟩ => ⟨h, hw ▸ Qt.refl _⟩, fun _ _ _ _ => trivial⟩
theorem cf_a3 : ∀ (args : Array Value) (W : World), Sem.run Tryz.prog (callFunc 201 args) W = .ok (.enter 201 args) W := by
 intro args W; simp [callFunc, go_sem, Tryz.func201, Tryz.f201]
theorem clo_a3 (c : UInt8) (w : World) : Calls Tryz.prog 201 #[.int .u8 (c.toNat : Int)] w fun e w' => e = .returned (.bool (is61 c)) ∧ w = w' := by
 go_enter Tryz.func201, Tryz.ntmps201; go_wp2; all_goals
  go_ret; exact ⟨ret_bool (by rw [Bool.eq_iff_iff]; simp [is61] <;> omega), rfl⟩
theorem do_a3 : Do 201 #[] is61 Tr := ⟨cf_a3, fun c W _ => (clo_a3 c W).mono fun _ _ ⟨h, hw⟩ => ⟨h, hw ▸ Qt.refl _⟩, fun _ _ _ _ => trivial⟩
theorem cf_t1 : ∀ (args : Array Value) (W : World), Sem.run Tryz.prog (callFunc 181 args) W = .ok (.enter 181 args) W := by
 intro args W; simp [callFunc, go_sem, Tryz.func181, Tryz.f181]
theorem clo_t1 (c : UInt8) (w : World) : Calls Tryz.prog 181 #[.int .u8 (c.toNat : Int)] w fun e w' => e = .returned (.bool (tch c)) ∧ w = w' := by
 cases hW : wht c; all_goals
  have WC := white_c c; rw [hW] at WC; have HW := Lib.hid hW; have HC := Lib.hid WC; clear hW WC; go_enter Tryz.func181, Tryz.ntmps181; go_wp2_with (go_at_call 52; refine (HC.out _).mono ?_; rintro e w' ⟨rfl, rfl⟩); all_goals
   go_ret; exact ⟨ret_bool (by rw [Bool.eq_iff_iff]; simp [tch, HW.out] <;> omega), rfl⟩
theorem do_t1 : Do 181 #[] tch Tr := ⟨cf_t1, fun c W _ => (clo_t1 c W).mono fun _ _ ⟨h, hw⟩ => ⟨h, hw ▸ Qt.refl _⟩, fun _ _ _ _ => trivial⟩
theorem cf_s1 : ∀ (args : Array Value) (W : World), Sem.run Tryz.prog (callFunc 152 args) W = .ok (.enter 152 args) W := by
 intro args W; simp [callFunc, go_sem, Tryz.func152, Tryz.f152]
theorem clo_s1 (c : UInt8) (w : World) : Calls Tryz.prog 152 #[.int .u8 (c.toNat : Int)] w fun e w' => e = .returned (.bool (not60 c)) ∧ w = w' := by
 go_enter Tryz.func152, Tryz.ntmps152; go_wp2; all_goals
  go_ret; exact ⟨ret_bool (by rw [Bool.eq_iff_iff]; simp [not60] <;> omega), rfl⟩
theorem do_s1 : Do 152 #[] not60 Tr := ⟨cf_s1, fun c W _ => (clo_s1 c W).mono fun _ _ ⟨h, hw⟩ => ⟨h, hw ▸ Qt.refl _⟩, fun _ _ _ _ => trivial⟩
theorem cf_v1 : ∀ (args : Array Value) (W : World), Sem.run Tryz.prog (callFunc 220 args) W = .ok (.enter 220 args) W := by
 intro args W; simp [callFunc, go_sem, Tryz.func220, Tryz.f220]
theorem clo_v1 (c : UInt8) (w : World) : Calls Tryz.prog 220 #[.int .u8 (c.toNat : Int)] w fun e w' => e = .returned (.bool (isq c)) ∧ w = w' := by
 go_enter Tryz.func220, Tryz.ntmps220; go_wp2; all_goals
  go_ret; exact ⟨ret_bool (by rw [Bool.eq_iff_iff]; simp [isq] <;> omega), rfl⟩
theorem do_v1 : Do 220 #[] isq Tr := ⟨cf_v1, fun c W _ => (clo_v1 c W).mono fun _ _ ⟨h, hw⟩ => ⟨h, hw ▸ Qt.refl _⟩, fun _ _ _ _ => trivial⟩
theorem cf_v3 : ∀ (args : Array Value) (W : World), Sem.run Tryz.prog (callFunc 222 args) W = .ok (.enter 222 args) W := by
 intro args W; simp [callFunc, go_sem, Tryz.func222, Tryz.f222]
theorem clo_v3 (c : UInt8) (w : World) : Calls Tryz.prog 222 #[.int .u8 (c.toNat : Int)] w fun e w' => e = .returned (.bool (vch c)) ∧ w = w' := by
 cases hW : wht c; all_goals
  have WC := white_c c; rw [hW] at WC; have HW := Lib.hid hW; have HC := Lib.hid WC; clear hW WC; go_enter Tryz.func222, Tryz.ntmps222; go_wp2_with (go_at_call 52; refine (HC.out _).mono ?_; rintro e w' ⟨rfl, rfl⟩); all_goals
   go_ret; exact ⟨ret_bool (by rw [Bool.eq_iff_iff]; simp [vch, HW.out] <;> omega), rfl⟩
theorem do_v3 : Do 222 #[] vch Tr := ⟨cf_v3, fun c W _ => (clo_v3 c W).mono fun _ _ ⟨h, hw⟩ => ⟨h, hw ▸ Qt.refl _⟩, fun _ _ _ _ => trivial⟩
theorem Tr2 (b : Nat) : ∀ W u, Tr W → Tr (W.setCell ⟨b, 1, none⟩ u) := fun _ _ _ => trivial
def OPN : List PanicEntry := [{ v := .iface 140 (.agg #[]), recovered := false }]
theorem need_no (b : Nat) (s x : List UInt8) (v : Value) (w : World) (hR : Rk w b s s.length x v) :
 Calls Tryz.prog 199 #[.pointer (some ⟨b, 0, none⟩)] w fun e w' => e = .panicked OPN ∧ Qt w w' := by
 obtain ⟨c0, c1, c2, c3, f0, f1, f2, f3⟩ := hR.cells; clear hR; go_enter Tryz.func199, Tryz.ntmps199; go_wp2_with (go_quiet (fail)); exact ⟨rfl, rfl, (Qt.refl _).drewN _⟩
theorem need_yes (b k : Nat) (s x : List UInt8) (v : Value) (w : World) (hR : Rk w b s k x v) (hk : k < s.length) (hs : s.length ≤ 1099511627776) :
 Calls Tryz.prog 199 #[.pointer (some ⟨b, 0, none⟩)] w fun e w' => e = .returned (.int .u8 (s[k].toNat : Int)) ∧ Rk w' b s (k + 1) x v ∧ w.grownBy w' (some b) := by
 obtain ⟨c0, c1, c2, c3, f0, f1, f2, f3⟩ := hR.cells; have hne : ((k : Int) == (s.length : Int)) = false := by simp; omega
 have hk' : (k : Int) < (s.length : Int) := by omega
 go_enter Tryz.func199, Tryz.ntmps199; go_wp2_with (go_quiet (fail)); go_ret; exact ⟨rfl, (((hR.of_bl ((Bl.refl _).drewN _)).seti (by omega)).of_bl ((Bl.refl _).drewN _)), gb_drewN (gb_set (gb_drewN (gb_refl _ _) _) _ _) _⟩
end Go.Proofs.YtamdlihgecpbkaaGreatDoor

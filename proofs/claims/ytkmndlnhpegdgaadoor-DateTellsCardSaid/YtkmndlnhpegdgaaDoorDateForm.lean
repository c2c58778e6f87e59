/- form: has a text signs like a form. -/
import Derived.Test.YtkmndlnhpegdgaaDoorDateNum
namespace Go.Proofs.YtkmndlnhpegdgaaDoor
open Go.RowKit

def FC (c g : Int) : Bool := if g = 100 then decide (0 ≤ Dg c 10) else if g = 97 then Ltr c else c == g
def Form : List UInt8 → List UInt8 → Bool
  | [], [] => true
  | c :: l, g :: f => FC c.toNat g.toNat && Form l f
  | _, _ => false
theorem Form_len (l f : List UInt8) (h : ¬ l.length = f.length) : Form l f = false := by
  induction l generalizing f with
  | nil => cases f <;> simp_all [Form]
  | cons c l ih =>
    cases f with
    | nil => rfl
    | cons g f => simp only [List.length_cons] at h; simp [Form, ih f (by omega)]
theorem Form_step (l f : List UInt8) (k : Nat) (h : k < l.length) (h' : k < f.length) : Form (l.drop k) (f.drop k) = (FC l[k].toNat f[k].toNat && Form (l.drop (k + 1)) (f.drop (k + 1))) := by
  rw [List.drop_eq_getElem_cons h, List.drop_eq_getElem_cons h']; rfl

theorem form_c (l f : List UInt8) (hl : l.length ≤ 9223372036854775807) (w : World) :
    Calls Tryd.prog 25 #[.string ⟨l.toArray⟩, .string ⟨f.toArray⟩] w fun e w' => e = .returned (.bool (Form l f)) ∧ Qt w w' := by
  by_cases he : l.length = f.length
  · go_enter Tryd.func25, Tryd.ntmps25
    go_wp2
    go_loopw [5] (fun i wr => ∃ k : Nat, k ≤ l.length ∧ i = .int .i64 k ∧ Form l f = Form (l.drop k) (f.drop k) ∧ Qt w wr) (fun i _ => l.length - (intOf i).toNat)
    case atStart => exact ⟨0, Nat.zero_le _, rfl, rfl, Qt.refl _⟩
    case round =>
      obtain ⟨k, hk, rfl, hF, hw⟩ := hrel
      by_cases hlt : k < l.length
      · have HF := Lib.hid hF
        have HE := Lib.hid he
        have hlt2 : k < f.length := by omega
        have hb := u8_lt l[k]
        have hb2 := u8_lt f[k]
        have HS := Lib.hid (Form_step l f k hlt hlt2)
        clear hF he
        go_wp2_with (first | (go_at_call 36; refine (digit_c _ _ (by omega) (by omega) _).mono ?_; rintro e w' ⟨rfl, rfl⟩) | (go_at_call 37; refine (isLetter_c _ (by omega) (by omega) _).mono ?_; rintro e w' ⟨rfl, rfl⟩) | go_quiet (fail))
        all_goals first
          | (go_ret; exact ⟨ret_bool (by rw [HF.out, HS.out]; simp_all [FC] <;> omega), by first | exact hw | exact hw.drewN _⟩)
          | (go_roundw; (case rel => exact ⟨k + 1, by omega, by go_num, by rw [HF.out, HS.out]; simp_all [FC], by first | exact hw | exact hw.drewN _⟩); (case measure => simp [intOf]; omega))
      · go_wp2
        go_ret
        exact ⟨ret_bool (by rw [hF, List.drop_of_length_le (by omega), List.drop_of_length_le (by omega)]; rfl), hw⟩
  · go_enter Tryd.func25, Tryd.ntmps25
    go_wp2
    go_ret
    exact ⟨ret_bool (Form_len _ _ he).symm, Qt.refl _⟩
end Go.Proofs.YtkmndlnhpegdgaaDoor

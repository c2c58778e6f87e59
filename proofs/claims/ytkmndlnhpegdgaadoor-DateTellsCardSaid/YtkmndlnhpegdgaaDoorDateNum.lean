/- number: the number that digits tell. -/
import Derived.Test.YtkmndlnhpegdgaaDoorDateRef
namespace Go.Proofs.YtkmndlnhpegdgaaDoor
open Go.RowKit

def Num (l : List UInt8) : Int := l.foldl (fun n c => 10 * n + Dg c.toNat 10) 0
def digs (l : List UInt8) : Prop := ∀ c ∈ l, 48 ≤ c.toNat ∧ c.toNat ≤ 57
theorem Num_snoc (l : List UInt8) (c : UInt8) : Num (l ++ [c]) = 10 * Num l + Dg c.toNat 10 := by simp [Num]
theorem Dg_dig (n : Int) (h : 48 ≤ n) (h' : n ≤ 57) : Dg n 10 = n - 48 := by unfold Dg; simp only [h, h', and_self, if_true]; split <;> omega
theorem Num_bd (l : List UInt8) : digs l → l.length ≤ 9 → 0 ≤ Num l ∧ Num l ≤ 1000000000 := by
  intro hd hl
  suffices h : ∀ l : List UInt8, digs l → 0 ≤ Num l ∧ Num l < 10 ^ l.length by
    have := h l hd
    have h2 : (10 : Int) ^ l.length ≤ 10 ^ 9 := by
      have := Nat.pow_le_pow_right (n := 10) (by omega) hl
      exact_mod_cast this
    omega
  intro l
  refine snoc_ind (p := fun l => digs l → 0 ≤ Num l ∧ Num l < 10 ^ l.length) (fun _ => by simp [Num]) (fun l c ih hd => ?_) l
  have := ih (fun c hc => hd c (by simp [hc]))
  have hc := hd c (by simp)
  rw [Num_snoc, Dg_dig _ (by omega) (by omega), List.length_append, List.length_singleton, Int.pow_succ]
  omega

theorem number_c (l : List UInt8) (hd : digs l) (hl : l.length ≤ 9) (w : World) :
    Calls Tryd.prog 28 #[.string ⟨l.toArray⟩] w fun e w' => e = .returned (.int .i64 (Num l)) ∧ w = w' := by
  go_enter Tryd.func28, Tryd.ntmps28
  go_wp2
  go_loop [3, 4] (fun n i => ∃ k : Nat, k ≤ l.length ∧ i = .int .i64 k ∧ n = .int .i64 (Num (l.take k))) (fun _ i => l.length - (intOf i).toNat)
  case atStart => exact ⟨0, Nat.zero_le _, rfl, rfl⟩
  case round =>
    obtain ⟨k, hk, rfl, rfl⟩ := hrel
    by_cases hlt : k < l.length
    · have hb := u8_lt l[k]
      have b1 := Num_bd (l.take k) (fun c hc => hd c (List.mem_of_mem_take hc)) (by simp; omega)
      have b2 := hd l[k] (List.getElem_mem _)
      have b3 := Dg_dig l[k].toNat (by omega) (by omega)
      obtain ⟨b4, b5⟩ : 0 ≤ Dg l[k].toNat 10 ∧ Dg l[k].toNat 10 ≤ 9 := by omega
      have HS := Lib.hid (Num_snoc (l.take k) l[k])
      have HT := Lib.hid (take_snoc l k hlt)
      clear b3
      go_wp2_with (go_at_call 36; refine (digit_c _ _ (by omega) (by omega) _).mono ?_; rintro e w' ⟨rfl, rfl⟩)
      go_round
      case rel => exact ⟨k + 1, by omega, by go_num, by rw [HT.out, HS.out]⟩
      case measure => simp [intOf]; omega
    · go_wp2
      go_ret
      exact ⟨ret_int (by rw [List.take_of_length_le (by omega)]), rfl⟩
theorem Num_2 (l : List UInt8) (h : digs l) (hl : l.length ≤ 2) : 0 ≤ Num l ∧ Num l ≤ 99 := by
  match l, hl with
  | [], _ => simp [Num]
  | [a], _ => have := h a (by simp); simp [Num, Dg_dig _ (show 48 ≤ (a.toNat : Int) by omega) (by omega)]; omega
  | [a, b], _ =>
    have := h a (by simp)
    have := h b (by simp)
    simp [Num, Dg_dig _ (show 48 ≤ (a.toNat : Int) by omega) (by omega), Dg_dig _ (show 48 ≤ (b.toNat : Int) by omega) (by omega)]; omega
theorem Num_4 (l : List UInt8) (h : digs l) (hl : l.length = 4) : 0 ≤ Num l ∧ Num l ≤ 9999 := by
  match l, hl with
  | [a, b, c, d], _ =>
    have := h a (by simp)
    have := h b (by simp)
    have := h c (by simp)
    have := h d (by simp)
    simp [Num, Dg_dig _ (show 48 ≤ (a.toNat : Int) by omega) (by omega), Dg_dig _ (show 48 ≤ (b.toNat : Int) by omega) (by omega), Dg_dig _ (show 48 ≤ (c.toNat : Int) by omega) (by omega), Dg_dig _ (show 48 ≤ (d.toNat : Int) by omega) (by omega)]; omega
end Go.Proofs.YtkmndlnhpegdgaaDoor

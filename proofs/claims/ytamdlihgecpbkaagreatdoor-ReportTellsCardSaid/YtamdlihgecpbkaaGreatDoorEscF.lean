/- strconv.ParseUint at base 10 and 16, of few digits. -/
import Derived.Test.YtamdlihgecpbkaaGreatDoorGrpB
set_option maxRecDepth 100000
set_option maxHeartbeats 4000000
namespace Go.Proofs.YtamdlihgecpbkaaGreatDoor
open Go.RowKit
def lo (c : Int) : Int := if c / 32 % 2 = 0 then c + 32 else c
theorem lo_bits : ∀ c : Fin 256, bits .or .u8 (c.val : Int) 32 = lo c.val := by decide +kernel
theorem lower_c (c : Int) (h0 : 0 ≤ c) (h1 : c ≤ 255) (w : World) : Calls Tryz.prog 210 #[.int .u8 c] w fun e w' => e = .returned (.int .u8 (lo c)) ∧ w = w' := by
 refine (Tryz.internal_strconv_lower c w).mono fun e w' ⟨he, hw⟩ => ⟨?_, hw.symm⟩
 have := lo_bits ⟨c.toNat, by omega⟩; simp only [show ((c.toNat : Nat) : Int) = c by omega] at this; rw [he, this]
def dig (b : Int) (c : UInt8) : Bool := decide (0 ≤ Dg c.toNat b)
def Nv (b : Int) (l : List UInt8) : Int := l.foldl (fun n c => n * b + Dg c.toNat b) 0
theorem Nv_snoc (b : Int) (l : List UInt8) (c : UInt8) : Nv b (l ++ [c]) = Nv b l * b + Dg c.toNat b := by simp [Nv]
theorem Dg_lt (n b : Int) (hb : 10 ≤ b) : Dg n b < b := by
 simp only [Dg]; split <;> omega
theorem Nv_bd (b : Int) (hb : b = 10 ∨ b = 16) (l : List UInt8) : l.all (dig b) = true → l.length ≤ 7 → 0 ≤ Nv b l ∧ Nv b l < 268435456 := by
 intro hd hl
 suffices h : ∀ l : List UInt8, l.all (dig b) = true → 0 ≤ Nv b l ∧ Nv b l < 16 ^ l.length by
  have := h l hd; have h2 : (16 : Int) ^ l.length ≤ 16 ^ 7 := by
   have := Nat.pow_le_pow_right (n := 16) (by omega) hl
   exact_mod_cast this
  omega
 intro l; refine snoc_ind (p := fun l => l.all (dig b) = true → 0 ≤ Nv b l ∧ Nv b l < 16 ^ l.length) (fun _ => by simp [Nv]) (fun l c ih hd => ?_) l; simp only [List.all_append, Bool.and_eq_true, List.all_cons, List.all_nil, Bool.and_true] at hd; have h1 := ih hd.1; have hc : 0 ≤ Dg c.toNat b := by simpa [dig] using hd.2
 have hlt := Dg_lt c.toNat b (by omega); rw [Nv_snoc, List.length_append, List.length_singleton, Int.pow_succ]; rcases hb with rfl | rfl <;> omega
def IP (b : Int) (l : List UInt8) : Value := if l.all (dig b) then .tuple #[.int .u64 (Nv b l), .nilIface] else .tuple #[.int .u64 0, .iface 230 (.int .i64 2)]
theorem all_snoc (b : Int) (l : List UInt8) (c : UInt8) : (l ++ [c]).all (dig b) = (l.all (dig b) && dig b c) := by simp
theorem not_all (b : Int) (l : List UInt8) (k : Nat) (h : k < l.length) (hd : dig b l[k] = false) : l.all (dig b) = false := by
 rw [List.all_eq_false]; exact ⟨l[k], List.getElem_mem _, by simp [hd]⟩
theorem IP_no {b : Int} {l : List UInt8} (h : l.all (dig b) = false) : IP b l = .tuple #[.int .u64 0, .iface 230 (.int .i64 2)] := by unfold IP; rw [h]; rfl
theorem IP_yes {b : Int} {l : List UInt8} (h : l.all (dig b) = true) : IP b l = .tuple #[.int .u64 (Nv b l), .nilIface] := by unfold IP; rw [h]; rfl
theorem Dg_cases (c b : Int) (hb : b = 10 ∨ b = 16) (h0 : 0 ≤ c) (h1 : c ≤ 255) : (48 ≤ c ∧ c ≤ 57 ∧ Dg c b = c - 48) ∨ (¬ (48 ≤ c ∧ c ≤ 57) ∧ 97 ≤ lo c ∧ lo c ≤ 122 ∧ lo c - 97 + 10 < b ∧ Dg c b = lo c - 97 + 10) ∨ (¬ (48 ≤ c ∧ c ≤ 57) ∧ (lo c < 97 ∨ 122 < lo c ∨ b ≤ lo c - 97 + 10) ∧ Dg c b = -1) := by
 have hlo : (65 ≤ c ∧ c ≤ 90 ∧ lo c = c + 32) ∨ (97 ≤ c ∧ c ≤ 122 ∧ lo c = c) ∨ ((c < 65 ∨ 90 < c) ∧ (c < 97 ∨ 122 < c) ∧ (lo c < 97 ∨ 122 < lo c)) := by
  unfold lo; split <;> omega
 simp only [Dg]
 (repeat' split) <;> omega
theorem lo_bd (c : Int) (h0 : 0 ≤ c) (h1 : c ≤ 255) : 0 ≤ lo c ∧ lo c ≤ 255 := by unfold lo; split <;> omega
theorem iparse10 (bits : Int) (l : List UInt8) (hx : bits = 8 ∧ l.length ≤ 1 ∨ bits = 32 ∧ l.length ≤ 7) (hne : 0 < l.length) (w : World) :
 Calls Tryz.prog 195 #[.string ⟨l.toArray⟩, .int .i64 10, .int .i64 bits] w fun e w' => e = .returned (IP 10 l) ∧ Bl w w' := by
 have hcv := of_str; have hl7 : l.length ≤ 7 := by omega
 have hdb := Nv_bd 10 (by omega); have HDB := Lib.hid hdb; have hBA : BA (w.drew.alloc (brow l (bCap w l.length) 5)) w.heap.size l := BA.at (by simp); have HBA := Lib.hid hBA; clear hdb hBA; have h2 : l.isEmpty = false := by cases l <;> simp_all
 have h255 : ∀ t : List UInt8, t.length ≤ 1 → Nv 10 t ≤ 15 := by
  intro t ht; match t, ht with
  | [], _ => simp [Nv]
  | [c], _ => have := Dg_lt c.toNat 10 (by omega); simp [Nv]; omega
 have HS := Lib.hid h255; clear h255; rcases hx with ⟨rfl, hl⟩ | ⟨rfl, hl⟩; all_goals
  go_enter Tryz.func195, Tryz.ntmps195; go_wp2; go_loop [12, 13, 101] (fun u n i => ∃ k : Nat, k ≤ l.length ∧ u = .bool false ∧ i = .int .i64 k ∧ n = .int .u64 (Nv 10 (l.take k)) ∧ (l.take k).all (dig 10) = true) (fun _ _ i => l.length - (intOf i).toNat); case atStart => exact ⟨0, Nat.zero_le _, rfl, rfl, rfl, rfl⟩
  case round =>
   obtain ⟨k, hk, rfl, rfl, rfl, ha⟩ := hrel; by_cases hlt : k < l.length
   · have hb := u8_lt l[k]; have hc := HBA.out k hlt; have hbd := HDB.out _ ha (by simp; omega); have hbd2 := HDB.out (l.take (k + 1)); rw [take_snoc l k hlt, all_snoc, ha, Bool.true_and, Nv_snoc] at hbd2; have hs2 := HS.out (l.take (k + 1)); rw [take_snoc l k hlt, Nv_snoc] at hs2; have HT := Lib.hid (take_snoc l k hlt); have HA := Lib.hid ha; have HNO := Lib.hid (not_all 10 l k hlt); have HN := Lib.hid (Nv_snoc 10 (l.take k) l[k]); have HX := Lib.hid (Dg_cases l[k].toNat 10 (by omega) (by omega) (by omega)); have hb2 := Lib.hid hbd2; have hs3 := Lib.hid hs2; have h95 : lo 95 = 127 := by decide
     have H95 := Lib.hid (show (l[k].toNat : Int) ≠ 95 ∨ lo l[k].toNat = 127 by by_cases h : (l[k].toNat : Int) = 95; (right; rw [h]; decide); (left; exact h)); have hlb := lo_bd l[k].toNat (by omega) (by omega); clear ha hbd2 hs2; go_wp2_with (go_at_call 210; refine (lower_c _ (by omega) (by omega) _).mono ?_; rintro e w' ⟨rfl, rfl⟩); all_goals
      have hX := HX.out; have hY := H95.out
     all_goals first
      | (go_ret2
         have hd : dig 10 l[k] = false := (by unfold dig; rw [decide_eq_false_iff_not]; omega); exact ⟨by rw [IP_no (HNO.out hd)]; rfl, by repeat (first | exact Bl.refl _ | refine Bl.alloc ?_ _ | refine Bl.drew ?_)⟩)
      | (exfalso
         have hd : dig 10 l[k] = true := (by unfold dig; rw [decide_eq_true_eq]; omega); have h1 := hb2.out hd (by simp; omega); first
          | omega
          | (have h2 := hs3.out (by simp; omega); omega))
      | (go_round
         case rel =>
          have hd : dig 10 l[k] = true := (by unfold dig; rw [decide_eq_true_eq]; omega); exact ⟨k + 1, by omega, rfl, by go_num, congrArg (Value.int .u64) (by rw [HT.out, HN.out]; omega), by rw [HT.out, all_snoc, HA.out, hd]; rfl⟩
         case measure => simp [intOf]; omega)
   · have HE := Lib.hid (show l.take k = l from List.take_of_length_le (by omega)); have HA := Lib.hid ha; clear ha; go_wp2; go_ret2; refine ⟨?_, by repeat (first | exact Bl.refl _ | refine Bl.alloc ?_ _ | refine Bl.drew ?_)⟩; have hA := HA.out; rw [HE.out] at hA ⊢; rw [IP_yes hA]; rfl
theorem iparse16 (bits : Int) (l : List UInt8) (hx : bits = 8 ∧ l.length ≤ 1 ∨ bits = 32 ∧ l.length ≤ 7) (hne : 0 < l.length) (w : World) :
 Calls Tryz.prog 195 #[.string ⟨l.toArray⟩, .int .i64 16, .int .i64 bits] w fun e w' => e = .returned (IP 16 l) ∧ Bl w w' := by
 have hcv := of_str; have hl7 : l.length ≤ 7 := by omega
 have hdb := Nv_bd 16 (by omega); have HDB := Lib.hid hdb; have hBA : BA (w.drew.alloc (brow l (bCap w l.length) 5)) w.heap.size l := BA.at (by simp); have HBA := Lib.hid hBA; clear hdb hBA; have h2 : l.isEmpty = false := by cases l <;> simp_all
 have h255 : ∀ t : List UInt8, t.length ≤ 1 → Nv 16 t ≤ 15 := by
  intro t ht; match t, ht with
  | [], _ => simp [Nv]
  | [c], _ => have := Dg_lt c.toNat 16 (by omega); simp [Nv]; omega
 have HS := Lib.hid h255; clear h255; rcases hx with ⟨rfl, hl⟩ | ⟨rfl, hl⟩; all_goals
  go_enter Tryz.func195, Tryz.ntmps195; go_wp2; go_loop [12, 13, 101] (fun u n i => ∃ k : Nat, k ≤ l.length ∧ u = .bool false ∧ i = .int .i64 k ∧ n = .int .u64 (Nv 16 (l.take k)) ∧ (l.take k).all (dig 16) = true) (fun _ _ i => l.length - (intOf i).toNat); case atStart => exact ⟨0, Nat.zero_le _, rfl, rfl, rfl, rfl⟩
  case round =>
   obtain ⟨k, hk, rfl, rfl, rfl, ha⟩ := hrel; by_cases hlt : k < l.length
   · have hb := u8_lt l[k]; have hc := HBA.out k hlt; have hbd := HDB.out _ ha (by simp; omega); have hbd2 := HDB.out (l.take (k + 1)); rw [take_snoc l k hlt, all_snoc, ha, Bool.true_and, Nv_snoc] at hbd2; have hs2 := HS.out (l.take (k + 1)); rw [take_snoc l k hlt, Nv_snoc] at hs2; have HT := Lib.hid (take_snoc l k hlt); have HA := Lib.hid ha; have HNO := Lib.hid (not_all 16 l k hlt); have HN := Lib.hid (Nv_snoc 16 (l.take k) l[k]); have HX := Lib.hid (Dg_cases l[k].toNat 16 (by omega) (by omega) (by omega)); have hb2 := Lib.hid hbd2; have hs3 := Lib.hid hs2; have h95 : lo 95 = 127 := by decide
     have H95 := Lib.hid (show (l[k].toNat : Int) ≠ 95 ∨ lo l[k].toNat = 127 by by_cases h : (l[k].toNat : Int) = 95; (right; rw [h]; decide); (left; exact h)); have hlb := lo_bd l[k].toNat (by omega) (by omega); clear ha hbd2 hs2; go_wp2_with (go_at_call 210; refine (lower_c _ (by omega) (by omega) _).mono ?_; rintro e w' ⟨rfl, rfl⟩); all_goals
      have hX := HX.out; have hY := H95.out
     all_goals first
      | (go_ret2
         have hd : dig 16 l[k] = false := (by unfold dig; rw [decide_eq_false_iff_not]; omega); exact ⟨by rw [IP_no (HNO.out hd)]; rfl, by repeat (first | exact Bl.refl _ | refine Bl.alloc ?_ _ | refine Bl.drew ?_)⟩)
      | (exfalso
         have hd : dig 16 l[k] = true := (by unfold dig; rw [decide_eq_true_eq]; omega); have h1 := hb2.out hd (by simp; omega); first
          | omega
          | (have h2 := hs3.out (by simp; omega); omega))
      | (go_round
         case rel =>
          have hd : dig 16 l[k] = true := (by unfold dig; rw [decide_eq_true_eq]; omega); exact ⟨k + 1, by omega, rfl, by go_num, congrArg (Value.int .u64) (by rw [HT.out, HN.out]; omega), by rw [HT.out, all_snoc, HA.out, hd]; rfl⟩
         case measure => simp [intOf]; omega)
   · have HE := Lib.hid (show l.take k = l from List.take_of_length_le (by omega)); have HA := Lib.hid ha; clear ha; go_wp2; go_ret2; refine ⟨?_, by repeat (first | exact Bl.refl _ | refine Bl.alloc ?_ _ | refine Bl.drew ?_)⟩; have hA := HA.out; rw [HE.out] at hA ⊢; rw [IP_yes hA]; rfl
end Go.Proofs.YtamdlihgecpbkaaGreatDoor

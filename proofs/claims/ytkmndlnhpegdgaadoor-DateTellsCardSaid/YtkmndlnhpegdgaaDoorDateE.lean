/- The reader's take and month. -/
import Derived.Test.YtkmndlnhpegdgaaDoorDateD
namespace Go.Proofs.YtkmndlnhpegdgaaDoor
open Go.RowKit

def tkO (s : List UInt8) : Bool := decide (3 ≤ s.length) && (s.take 3).all fun c => Ltr c.toNat
def tkV (s : List UInt8) : List UInt8 := if tkO s then s.take 3 else []
def tkS (s : List UInt8) : List UInt8 := if tkO s then s.drop 3 else []
theorem tkO_no (s : List UInt8) (k : Nat) (h : k < s.length) (hk : k < 3) (hl : Ltr s[k].toNat = false) : tkO s = false := by
  unfold tkO
  rw [Bool.and_eq_false_iff]
  right
  rw [List.all_eq_false]
  exact ⟨s[k], by rw [List.mem_take_iff_getElem]; exact ⟨k, by omega, rfl⟩, by simp [hl]⟩
theorem tkO_yes (s : List UInt8) (h : 3 ≤ s.length) (ha : ∀ j, (hj : j < s.length) → j < 3 → Ltr s[j].toNat = true) : tkO s = true := by
  unfold tkO
  rw [Bool.and_eq_true, decide_eq_true_eq, List.all_eq_true]
  refine ⟨h, fun c hc => ?_⟩
  rw [List.mem_take_iff_getElem] at hc
  obtain ⟨j, hj, rfl⟩ := hc
  exact ha j (by omega) (by omega)

theorem take_c (b : Nat) (s : List UInt8) (sh : Bool) (w : World) (hR : Rd w b s sh) (hs : s.length ≤ 9223372036854775807) :
    Calls Tryd.prog 20 #[.pointer (some ⟨b, 0, none⟩), .int .i64 3, .func (.func 19) #[] #[]] w fun e w' =>
      e = .returned (.string ⟨(tkV s).toArray⟩) ∧ Rd w' b (tkS s) (sh || !tkO s) ∧ Mo b w w' := by
  obtain ⟨c0, c1, f0, f1⟩ := hR.cells
  have hlt := hR.lt
  go_enter Tryd.func20, Tryd.ntmps20
  go_wp2_with fail
  go_loop [10] (fun i => ∃ k : Nat, k ≤ 3 ∧ k ≤ s.length ∧ i = .int .i64 k ∧ ∀ j, (hj : j < s.length) → j < k → Ltr s[j].toNat = true) (fun i => 3 - (intOf i).toNat)
  case atStart => exact ⟨0, by omega, by omega, rfl, fun j _ h => by omega⟩
  case round =>
    obtain ⟨k, hk3, hk, rfl, ha⟩ := hrel
    have HA := Lib.hid ha
    clear ha
    by_cases h3 : k < 3
    · by_cases hks : k < s.length
      · have hb := u8_lt s[k]
        have hks' : (k : Int) < s.length := by omega
        cases hl : Ltr s[k].toNat
        · have hO := Lib.hid (tkO_no s k hks h3 hl)
          go_wp2_with (go_at_call 19; refine (letter_c _ (by omega) (by omega) _).mono ?_; rintro e w' ⟨rfl, rfl⟩)
          go_ret
          exact ⟨by simp [tkV, hO.out], by simpa [tkS, hO.out] using (hR.set0 []).set1 true, ((Mo.refl b w).set _ _).set _ _⟩
        · have HL := Lib.hid hl
          go_wp2_with (go_at_call 19; refine (letter_c _ (by omega) (by omega) _).mono ?_; rintro e w' ⟨rfl, rfl⟩)
          go_round
          case rel => exact ⟨k + 1, by omega, by omega, by go_num, fun j hj hjk => by by_cases e : j = k; (subst e; exact HL.out); exact HA.out j hj (by omega)⟩
          case measure => simp [intOf]; omega
      · have hks' : (s.length : Int) ≤ k := by omega
        have hO := Lib.hid (show tkO s = false by simp [tkO]; omega)
        go_wp2_with (go_at_call 19; refine (letter_c _ (by omega) (by omega) _).mono ?_; rintro e w' ⟨rfl, rfl⟩)
        go_ret
        exact ⟨by simp [tkV, hO.out], by simpa [tkS, hO.out] using (hR.set0 []).set1 true, ((Mo.refl b w).set _ _).set _ _⟩
    · have hO := Lib.hid (tkO_yes s (by omega) (fun j hj h => HA.out j hj (by omega)))
      have h33 : (3 : Int) ≤ s.length := by omega
      have h34 : 3 ≤ s.length := by omega
      go_wp2
      go_ret
      exact ⟨by simp [tkV, hO.out], by simpa [tkS, hO.out] using hR.set0 (s.drop 3), (Mo.refl b w).set _ _⟩

def monIx (s : List UInt8) : Int :=
  if s = [74, 97, 110] then 1 else if s = [70, 101, 98] then 2 else if s = [77, 97, 114] then 3 else if s = [65, 112, 114] then 4 else if s = [77, 97, 121] then 5 else if s = [74, 117, 110] then 6
  else if s = [74, 117, 108] then 7 else if s = [65, 117, 103] then 8 else if s = [83, 101, 112] then 9 else if s = [79, 99, 116] then 10 else if s = [78, 111, 118] then 11 else if s = [68, 101, 99] then 12 else 0

theorem monIx_none (t : List UInt8) (h0 : ¬ [74, 97, 110] = t) (h1 : ¬ [70, 101, 98] = t) (h2 : ¬ [77, 97, 114] = t) (h3 : ¬ [65, 112, 114] = t) (h4 : ¬ [77, 97, 121] = t) (h5 : ¬ [74, 117, 110] = t) (h6 : ¬ [74, 117, 108] = t) (h7 : ¬ [65, 117, 103] = t) (h8 : ¬ [83, 101, 112] = t) (h9 : ¬ [79, 99, 116] = t) (h10 : ¬ [78, 111, 118] = t) (h11 : ¬ [68, 101, 99] = t) : monIx t = 0 := by
  unfold monIx
  rw [if_neg (fun h => h0 h.symm), if_neg (fun h => h1 h.symm), if_neg (fun h => h2 h.symm), if_neg (fun h => h3 h.symm), if_neg (fun h => h4 h.symm), if_neg (fun h => h5 h.symm), if_neg (fun h => h6 h.symm), if_neg (fun h => h7 h.symm), if_neg (fun h => h8 h.symm), if_neg (fun h => h9 h.symm), if_neg (fun h => h10 h.symm), if_neg (fun h => h11 h.symm)]

set_option maxHeartbeats 1000000 in
theorem month_c (b : Nat) (s : List UInt8) (sh : Bool) (w : World) (hR : Rd w b s sh) (hs : s.length ≤ 9223372036854775807) :
    Calls Tryd.prog 21 #[.pointer (some ⟨b, 0, none⟩)] w fun e w' =>
      e = .returned (.int .i64 (monIx (tkV s))) ∧ Rd w' b (tkS s) (sh || !tkO s || decide (monIx (tkV s) = 0)) ∧ Mo b w w' := by
  have tc := take_c b s sh w hR hs
  obtain ⟨t, ht⟩ : ∃ t, t = tkV s := ⟨_, rfl⟩
  rw [← ht] at tc ⊢
  have TC := Lib.hid tc
  clear tc ht hR
  go_enter Tryd.func21, Tryd.ntmps21
  go_wp2_with (go_at_call 20; refine TC.out.mono ?_; rintro e w' ⟨rfl, hr, hm⟩; have hlt := hr.lt; obtain ⟨c0, c1, f0, f1⟩ := hr.cells; clear TC)
  refine wp_loop_rounds 13 ?_
  repeat any_goals (rw [rounds_succ]; go_wp2)
  all_goals
    go_ret
    simp only [beq_iff_eq, beq_eq_false_iff_ne] at *
    first
      | (subst t; refine ⟨rfl, by simpa [monIx] using hr, hm⟩)
      | (have h0 : monIx t = 0 := by exact monIx_none t (by assumption) (by assumption) (by assumption) (by assumption) (by assumption) (by assumption) (by assumption) (by assumption) (by assumption) (by assumption) (by assumption) (by assumption)
         refine ⟨by rw [h0]; rfl, by simpa [h0] using hr.set1 true, hm.set _ _⟩)
end Go.Proofs.YtkmndlnhpegdgaaDoor

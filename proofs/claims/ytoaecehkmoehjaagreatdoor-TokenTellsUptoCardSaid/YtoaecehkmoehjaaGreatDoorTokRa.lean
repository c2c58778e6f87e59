/- Tokens: the reference: nextOf, AttrBytes, TokenBytes, CheckAttrs. -/
import Derived.Test.YtoaecehkmoehjaaGreatDoorTokBy
import Derived.Test.YtoaecehkmoehjaaGreatDoorGrpC
namespace Go.Proofs.YtoaecehkmoehjaaGreatDoor
open Go.RowKit

/-- Where the first such text begins, from a place on; -1: nowhere. -/
def nxI (s p : List UInt8) (a : Nat) : Int := match cutS p (s.drop a) with | none => -1 | some r => (s.length : Int) - r.length - p.length
theorem cutS_short (p : List UInt8) : ∀ l : List UInt8, l.length < p.length → cutS p l = none := by
  intro l
  induction l with
  | nil => intro _; rfl
  | cons c l ih =>
    intro h
    unfold cutS
    have : pre p (c :: l) = false := by
      cases e : pre p (c :: l)
      · rfl
      · have := pre_len e; omega
    rw [this, ih (by simp at h; omega)]
    rfl
theorem cutS_no {p : List UInt8} {c : UInt8} {r : List UInt8} (h : pre p (c :: r) = false) : cutS p (c :: r) = cutS p r := by
  rw [show cutS p (c :: r) = if pre p (c :: r) then some ((c :: r).drop p.length) else cutS p r from rfl, h]; rfl
theorem cutS_yes {p : List UInt8} {c : UInt8} {r : List UInt8} (h : pre p (c :: r) = true) : cutS p (c :: r) = some ((c :: r).drop p.length) := by
  rw [show cutS p (c :: r) = if pre p (c :: r) then some ((c :: r).drop p.length) else cutS p r from rfl, h]; rfl
set_option maxRecDepth 100000 in
set_option maxHeartbeats 1000000 in
theorem nextOf_c (s p : List UInt8) (a : Nat) (hs : s.length ≤ 4294967296) (hp : p ≠ []) (hp2 : p.length ≤ 1000) (ha : a ≤ s.length) (w : World) :
    Calls Tryz.prog 30 #[.string ⟨s.toArray⟩, .int .i64 (a : Int), .string ⟨p.toArray⟩] w fun e w' => e = .returned (.int .i64 (nxI s p a)) ∧ w = w' := by
  have hp3 : 0 < p.length := List.length_pos_iff.2 hp
  have SC := Lib.hid (fun k hk W => startsAt_c s p k (by omega) hp2 hk W)
  go_enter Tryz.func30, Tryz.ntmps30
  go_wp2
  go_loop [1] (fun i => ∃ k : Nat, k ≤ s.length ∧ i = .int .i64 k ∧ Hid (cutS p (s.drop a) = cutS p (s.drop k))) (fun i => s.length - (intOf i).toNat)
  case atStart => exact ⟨a, ha, rfl, Lib.hid rfl⟩
  case round =>
    obtain ⟨k, hk, rfl, HC⟩ := hrel
    by_cases hlt : k + p.length ≤ s.length
    · have SK := SC.out k hk
      have HD := Lib.hid (show s.drop k = s[k] :: s.drop (k + 1) from List.drop_eq_getElem_cons (by omega))
      cases hY : pre p (s.drop k)
      · rw [hY] at SK
        have HK := Lib.hid SK
        have HE := Lib.hid (show cutS p (s.drop k) = cutS p (s.drop (k + 1)) by
          rw [HD.out] at hY ⊢; exact cutS_no hY)
        clear SK hY
        go_wp2_with (go_at_call 26; (with_reducible refine (HK.out _).mono ?_); rintro e w7 ⟨rfl, rfl⟩)
        go_round
        case rel => exact ⟨k + 1, by omega, by go_num, Lib.hid (HC.out.trans HE.out)⟩
        case measure => simp [intOf]; omega
      · rw [hY] at SK
        have HK := Lib.hid SK
        have HE := Lib.hid (show nxI s p a = k by
          unfold nxI; rw [HC.out]
          have : cutS p (s.drop k) = some (s.drop (k + p.length)) := by
            rw [HD.out] at hY ⊢; rw [cutS_yes hY, ← HD.out, List.drop_drop]
          rw [this]
          simp only [List.length_drop]
          omega)
        clear SK hY
        go_wp2_with (go_at_call 26; (with_reducible refine (HK.out _).mono ?_); rintro e w7 ⟨rfl, rfl⟩)
        go_ret
        exact ⟨by rw [HE.out]; rfl, rfl⟩
    · have HE := Lib.hid (show nxI s p a = -1 by
        unfold nxI; rw [HC.out, cutS_short p _ (by simp; omega)])
      go_wp2
      go_ret
      exact ⟨by rw [HE.out]; rfl, rfl⟩
end Go.Proofs.YtoaecehkmoehjaaGreatDoor

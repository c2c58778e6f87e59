/- signAt, TakeOf of the reference. -/
import Derived.Test.YtkacjnifhmgeiaaGreatDoorEscM
namespace Go.Proofs.YtkacjnifhmgeiaaGreatDoor
open Go.RowKit

set_option maxHeartbeats 1000000 in
theorem signAtN0 (s : List UInt8) (at' : Nat) (hs : s.length ≤ 1099511627776) (ha : at' ≤ s.length) (w : World)
    (n1 : pre nAmp (s.drop at') = true) :
    Calls Tryz.prog 85 #[.string ⟨s.toArray⟩, .int .i64 (at' : Int)] w fun e w' => e = .returned (sgV (sgR (s.drop at'))) ∧ Bl w w' := by
  have SC := Lib.hid (fun p W hp => startsAt_c s p at' (by omega) hp ha W)
  have HR := Lib.hid (sgR_named (show nmd (s.drop at') = ([38], 5) by unfold nmd; simp [n1]) (by omega))
  unfold nAmp at n1
  go_enter Tryz.func85, Tryz.ntmps85
  go_wp2_with (go_at_call 47; refine (SC.out _ _ (by simp)).mono ?_; rintro e w' ⟨rfl, rfl⟩)
  go_ret3
  exact ⟨by rw [HR.out]; rfl, Bl.refl _⟩
set_option maxHeartbeats 1000000 in
theorem signAtN1 (s : List UInt8) (at' : Nat) (hs : s.length ≤ 1099511627776) (ha : at' ≤ s.length) (w : World)
    (n1 : pre nAmp (s.drop at') = false) (n2 : pre nLt (s.drop at') = true) :
    Calls Tryz.prog 85 #[.string ⟨s.toArray⟩, .int .i64 (at' : Int)] w fun e w' => e = .returned (sgV (sgR (s.drop at'))) ∧ Bl w w' := by
  have SC := Lib.hid (fun p W hp => startsAt_c s p at' (by omega) hp ha W)
  have HR := Lib.hid (sgR_named (show nmd (s.drop at') = ([60], 4) by unfold nmd; simp [n1, n2]) (by omega))
  unfold nAmp at n1
  unfold nLt at n2
  go_enter Tryz.func85, Tryz.ntmps85
  go_wp2_with (go_at_call 47; refine (SC.out _ _ (by simp)).mono ?_; rintro e w' ⟨rfl, rfl⟩)
  go_ret3
  exact ⟨by rw [HR.out]; rfl, Bl.refl _⟩
set_option maxHeartbeats 1000000 in
theorem signAtN2 (s : List UInt8) (at' : Nat) (hs : s.length ≤ 1099511627776) (ha : at' ≤ s.length) (w : World)
    (n1 : pre nAmp (s.drop at') = false) (n2 : pre nLt (s.drop at') = false) (n3 : pre nGt (s.drop at') = true) :
    Calls Tryz.prog 85 #[.string ⟨s.toArray⟩, .int .i64 (at' : Int)] w fun e w' => e = .returned (sgV (sgR (s.drop at'))) ∧ Bl w w' := by
  have SC := Lib.hid (fun p W hp => startsAt_c s p at' (by omega) hp ha W)
  have HR := Lib.hid (sgR_named (show nmd (s.drop at') = ([62], 4) by unfold nmd; simp [n1, n2, n3]) (by omega))
  unfold nAmp at n1
  unfold nLt at n2
  unfold nGt at n3
  go_enter Tryz.func85, Tryz.ntmps85
  go_wp2_with (go_at_call 47; refine (SC.out _ _ (by simp)).mono ?_; rintro e w' ⟨rfl, rfl⟩)
  go_ret3
  exact ⟨by rw [HR.out]; rfl, Bl.refl _⟩
set_option maxHeartbeats 1000000 in
theorem signAtN3 (s : List UInt8) (at' : Nat) (hs : s.length ≤ 1099511627776) (ha : at' ≤ s.length) (w : World)
    (n1 : pre nAmp (s.drop at') = false) (n2 : pre nLt (s.drop at') = false) (n3 : pre nGt (s.drop at') = false) (n4 : pre nQuot (s.drop at') = true) :
    Calls Tryz.prog 85 #[.string ⟨s.toArray⟩, .int .i64 (at' : Int)] w fun e w' => e = .returned (sgV (sgR (s.drop at'))) ∧ Bl w w' := by
  have SC := Lib.hid (fun p W hp => startsAt_c s p at' (by omega) hp ha W)
  have HR := Lib.hid (sgR_named (show nmd (s.drop at') = ([34], 6) by unfold nmd; simp [n1, n2, n3, n4]) (by omega))
  unfold nAmp at n1
  unfold nLt at n2
  unfold nGt at n3
  unfold nQuot at n4
  go_enter Tryz.func85, Tryz.ntmps85
  go_wp2_with (go_at_call 47; refine (SC.out _ _ (by simp)).mono ?_; rintro e w' ⟨rfl, rfl⟩)
  go_ret3
  exact ⟨by rw [HR.out]; rfl, Bl.refl _⟩
set_option maxHeartbeats 1000000 in
theorem signAtN4 (s : List UInt8) (at' : Nat) (hs : s.length ≤ 1099511627776) (ha : at' ≤ s.length) (w : World)
    (n1 : pre nAmp (s.drop at') = false) (n2 : pre nLt (s.drop at') = false) (n3 : pre nGt (s.drop at') = false) (n4 : pre nQuot (s.drop at') = false) (n5 : pre nApos (s.drop at') = true) :
    Calls Tryz.prog 85 #[.string ⟨s.toArray⟩, .int .i64 (at' : Int)] w fun e w' => e = .returned (sgV (sgR (s.drop at'))) ∧ Bl w w' := by
  have SC := Lib.hid (fun p W hp => startsAt_c s p at' (by omega) hp ha W)
  have HR := Lib.hid (sgR_named (show nmd (s.drop at') = ([39], 6) by unfold nmd; simp [n1, n2, n3, n4, n5]) (by omega))
  unfold nAmp at n1
  unfold nLt at n2
  unfold nGt at n3
  unfold nQuot at n4
  unfold nApos at n5
  go_enter Tryz.func85, Tryz.ntmps85
  go_wp2_with (go_at_call 47; refine (SC.out _ _ (by simp)).mono ?_; rintro e w' ⟨rfl, rfl⟩)
  go_ret3
  exact ⟨by rw [HR.out]; rfl, Bl.refl _⟩
set_option maxHeartbeats 1000000 in
theorem signAtN5 (s : List UInt8) (at' : Nat) (hs : s.length ≤ 1099511627776) (ha : at' ≤ s.length) (w : World)
    (n1 : pre nAmp (s.drop at') = false) (n2 : pre nLt (s.drop at') = false) (n3 : pre nGt (s.drop at') = false) (n4 : pre nQuot (s.drop at') = false) (n5 : pre nApos (s.drop at') = false) (n6 : pre [38, 35] (s.drop at') = false) (n7 : pre [38, 35, 120] (s.drop at') = false) :
    Calls Tryz.prog 85 #[.string ⟨s.toArray⟩, .int .i64 (at' : Int)] w fun e w' => e = .returned (sgV (sgR (s.drop at'))) ∧ Bl w w' := by
  have SC := Lib.hid (fun p W hp => startsAt_c s p at' (by omega) hp ha W)
  have HR := Lib.hid (sgR_none (nmd_zero n1 n2 n3 n4 n5) (show (nbr (s.drop at')).2 = 0 by unfold nbr; rw [n7, n6]; rfl))
  clear n7
  unfold nAmp at n1
  unfold nLt at n2
  unfold nGt at n3
  unfold nQuot at n4
  unfold nApos at n5
  go_enter Tryz.func85, Tryz.ntmps85
  go_wp2_with (go_at_call 47; refine (SC.out _ _ (by simp)).mono ?_; rintro e w' ⟨rfl, rfl⟩)
  go_ret3
  exact ⟨by rw [HR.out]; rfl, Bl.refl _⟩

theorem pre_two (t : List UInt8) (h : pre [38, 35] t = false) : pre [38, 35, 120] t = false := by
  match t, h with
  | [], _ => rfl
  | [a], _ => simp [pre, List.isPrefixOf]
  | a :: b :: t, h =>
    simp only [pre, List.isPrefixOf, Bool.and_true] at h ⊢
    cases t <;> simp_all
theorem pre_three (t : List UInt8) (h : pre [38, 35, 120] t = true) : pre [38, 35] t = true := by
  cases h' : pre [38, 35] t
  · rw [pre_two t h'] at h; exact h
  · rfl
theorem signAt_c (s : List UInt8) (at' : Nat) (hs : s.length ≤ 1099511627776) (ha : at' ≤ s.length) (w : World) :
    Calls Tryz.prog 85 #[.string ⟨s.toArray⟩, .int .i64 (at' : Int)] w fun e w' => e = .returned (sgV (sgR (s.drop at'))) ∧ Bl w w' := by
  cases n1 : pre nAmp (s.drop at')
  case true => exact signAtN0 s at' hs ha w n1
  cases n2 : pre nLt (s.drop at')
  case true => exact signAtN1 s at' hs ha w n1 n2
  cases n3 : pre nGt (s.drop at')
  case true => exact signAtN2 s at' hs ha w n1 n2 n3
  cases n4 : pre nQuot (s.drop at')
  case true => exact signAtN3 s at' hs ha w n1 n2 n3 n4
  cases n5 : pre nApos (s.drop at')
  case true => exact signAtN4 s at' hs ha w n1 n2 n3 n4 n5
  cases n6 : pre [38, 35] (s.drop at')
  · exact signAtN5 s at' hs ha w n1 n2 n3 n4 n5 n6 (pre_two _ n6)
  cases n7 : pre [38, 35, 120] (s.drop at')
  · exact signAt10 s at' hs ha w n1 n2 n3 n4 n5 n6 n7
  · exact signAt16 s at' hs ha w n1 n2 n3 n4 n5 n6 n7
theorem sgn_zero (t : List UInt8) (h : (sgn t).2.1 = 0) : sgn t = ([38], 0, false) := by
  unfold sgn at h ⊢
  split at h
  · rename_i h1; simp only [] at h; omega
  rename_i h1
  rw [if_neg h1]
  split at h
  · rename_i h2; rw [if_pos h2]
  · rename_i h2; split at h <;> exact absurd h h2

set_option maxRecDepth 100000 in
set_option maxHeartbeats 4000000 in
theorem takeOf_c (l : List UInt8) (hl : l.length ≤ 1099511627776) (w : World) :
    Calls Tryz.prog 67 #[.string ⟨l.toArray⟩] w fun e w' => e = .returned (.tuple #[.string ⟨(Tk l).1.toArray⟩, .bool (Tk l).2]) ∧ Bl w w' := by
  go_enter Tryz.func67, Tryz.ntmps67
  go_wp2
  go_loopw [4, 5, 6] (fun s0 s5 s1 wr => ∃ (k : Nat) (out : List UInt8) (al : Bool), k ≤ l.length ∧ s0 = .string ⟨out.toArray⟩ ∧ s5 = .bool al ∧ s1 = .int .i64 k ∧ Hid (Tk l = (out ++ (Tk (l.drop k)).1, al && (Tk (l.drop k)).2)) ∧ Bl w wr) (fun _ _ s1 _ => l.length - (intOf s1).toNat)
  case atStart => exact ⟨0, [], true, Nat.zero_le _, rfl, rfl, rfl, Lib.hid (by simp), Bl.refl _⟩
  case round =>
    obtain ⟨k, out, al, hk, rfl, rfl, rfl, HK, hbl⟩ := hrel
    have hol : out.length ≤ 4 * l.length := by
      have h1 := Tk_len l.length l (Nat.le_refl _)
      rw [HK.out] at h1
      simp only [List.length_append] at h1; omega
    by_cases hlt : k < l.length
    · have HD : l.drop k = l[k] :: l.drop (k + 1) := List.drop_eq_getElem_cons hlt
      have hlt1 : k + 1 ≤ l.length := by omega
      have hlt2 : (k : Int) + 1 ≤ l.length := by omega
      have HT := Lib.hid (take_one l k hlt)
      by_cases hc : l[k] = 38
      · have hc' : ((l[k].toNat : Int) == 38) = true := by rw [hc]; rfl
        have hK := HK.out
        rw [HD, hc, Tk_amp] at hK
        have hs := sgn_len (38 :: l.drop (k + 1))
        have hz := sgn_zero (38 :: l.drop (k + 1))
        have SC := Lib.hid (fun W => signAt_c l k hl hk W)
        rw [HD, hc] at SC
        unfold sgR at SC
        obtain ⟨sg, hsg⟩ : ∃ sg, sg = sgn (38 :: l.drop (k + 1)) := ⟨_, rfl⟩
        rw [← hsg] at hK hs hz SC
        obtain ⟨t, n, ok⟩ := sg
        simp only [List.length_cons, List.length_drop] at hs hK SC hz
        obtain ⟨hs1, hs2⟩ := hs
        by_cases hn : n = 0
        · have hz2 := hz hn
          simp only [Prod.mk.injEq] at hz2
          obtain ⟨rfl, -, rfl⟩ := hz2
          subst hn
          rw [if_pos rfl] at SC
          unfold sgV at SC
          simp only [Nat.zero_sub, List.drop_zero] at hK
          have HK2 := Lib.hid hK
          clear hK hsg HD hz
          go_wp2_with (go_at_call 85; refine (SC.out _).mono ?_; rintro e w1 ⟨rfl, hb1⟩)
          all_goals
            go_roundw
            case rel => exact ⟨k + 1, out ++ [38], false, by omega, by first | rfl | simp, by simp, by go_num, Lib.hid (by rw [HK2.out]; simp), hbl.trans hb1⟩
            case measure => simp [intOf]; omega
        · rw [if_neg hn] at SC
          unfold sgV at SC
          have hn' : ((n : Int) == 0) = false := by simp; omega
          have hdr : (l.drop (k + 1)).drop (n - 1) = l.drop (k + n) := by rw [List.drop_drop]; congr 1; omega
          rw [hdr] at hK
          have HK2 := Lib.hid hK
          have hn0 : 0 < n := Nat.pos_of_ne_zero hn
          clear hK hsg HD hz hdr hn
          go_wp2_with (go_at_call 85; refine (SC.out _).mono ?_; rintro e w1 ⟨rfl, hb1⟩)
          · obtain rfl : al = true := by assumption
            go_roundw
            case rel => exact ⟨k + n, out ++ t, ok, by omega, by first | rfl | simp, by simp, by go_num, Lib.hid (by rw [HK2.out]; simp), hbl.trans hb1⟩
            case measure => simp [intOf]; omega
          · obtain rfl : al = false := by
              have h : ¬ al = true := by assumption
              simpa using h
            go_roundw
            case rel => exact ⟨k + n, out ++ t, false, by omega, by first | rfl | simp, by simp, by go_num, Lib.hid (by rw [HK2.out]; simp), hbl.trans hb1⟩
            case measure => simp [intOf]; omega
      · have hc' : ((l[k].toNat : Int) == 38) = false := beq_false_of_ne (fun e => hc (UInt8.toNat_inj.1 (by rw [show (38 : UInt8).toNat = 38 from rfl]; omega)))
        have hK := HK.out
        rw [HD, Tk_plain _ _ hc] at hK
        have HK2 := Lib.hid hK
        clear hK HD hc
        go_wp2
        go_roundw
        case rel => exact ⟨k + 1, out ++ [l[k]], al, by omega, by rw [HT.out] <;> first | rfl | simp, by simp, by go_num, Lib.hid (by rw [HK2.out]; simp), hbl⟩
        case measure => simp [intOf]; omega
    · go_wp2
      go_ret2
      exact ⟨by rw [HK.out, List.drop_eq_nil_of_le (by omega)]; simp [Tk_nil], hbl⟩
end Go.Proofs.YtkacjnifhmgeiaaGreatDoor

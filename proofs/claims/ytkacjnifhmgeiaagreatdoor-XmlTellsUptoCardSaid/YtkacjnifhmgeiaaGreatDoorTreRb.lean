/- Trees: the reference's count; nodesAre. -/
import Derived.Test.YtkacjnifhmgeiaaGreatDoorGrpJ
import Derived.Test.YtkacjnifhmgeiaaGreatDoorTreR
namespace Go.Proofs.YtkacjnifhmgeiaaGreatDoor
open Go.RowKit

/-- How deep, told from a depth on. -/
def ab (p d : Nat) : Nat := if d = 0 then 0 else p - 1 + d
theorem exL_zero (l : List Nd) : exL 0 l = 0 := by
  induction l with
  | nil => rfl
  | cons d l ih =>
    have h : exN 0 d = 0 := by unfold exN; split <;> rfl
    simp only [exL, List.map_cons, List.sum_cons] at *
    omega
theorem ab_spec (p d : Nat) (hp : 1 ≤ p) : (d = 0 ∧ ab p d = 0) ∨ (1 ≤ d ∧ ab p d + 1 = p + d) := by
  unfold ab
  by_cases h : d = 0
  · left; simp [h]
  · right; rw [if_neg h]; omega
set_option maxRecDepth 100000 in
set_option maxHeartbeats 4000000 in
theorem count_c (f : Nat) : ∀ (p : Nat) (l : List Nd) (v : Value) (P : Nat → Prop) (w : World), p + f = 9 → 1 ≤ p → cntL l ≤ 100000000 → NdS w P v l →
    Calls Tryz.prog 19 #[v, .int .i64 (p : Int)] w fun e w' => e = .returned (.tuple #[.int .i64 (manyL f l : Nat), .int .i64 (ab p (deepL f l) : Nat)]) ∧ w = w' := by
  induction f with
  | zero =>
    intro p l v P w hpf hp hc hN
    obtain rfl : p = 9 := by omega
    obtain ⟨ao, cap, rfl, hcap, hN⟩ := hN.get
    have hlen := cnt_len l
    have HN := Lib.hid hN
    have HC := Lib.hid hc
    clear hN
    rw [show ((9 : Nat) : Int) = 9 from rfl]
    go_enter Tryz.func19, Tryz.ntmps19
    go_wp2
    go_loop [6, 7, 8] (fun m d i => ∃ k : Nat, k ≤ l.length ∧ i = .int .i64 k ∧ m = .int .i64 ((l.length : Nat) : Int) ∧ d = .int .i64 ((ab 9 (deepL 0 (l.take k)) : Nat) : Int)) (fun _ _ i => l.length - (intOf i).toNat)
    case atStart => exact ⟨0, Nat.zero_le _, rfl, rfl, by simp [deepL, ab]⟩
    case round =>
      obtain ⟨k, hk, rfl, rfl, rfl⟩ := hrel
      have hs := ab_spec 9 (deepL 0 (l.take k)) (by omega)
      have hd1 := deep_bd (l.take k) 0
      by_cases hlt : k < l.length
      · obtain ⟨g, o, va, vk, rfl, hg, -, y1, h2, h3, y4, h5, h6⟩ := HN.out k hlt
        have HD := Lib.hid (show deepL 0 (l.take (k + 1)) = max (deepL 0 (l.take k)) (dpE 0 l[k]) by rw [take_snoc l k hlt, deep_snoc])
        have hs2 := ab_spec 9 (deepL 0 (l.take (k + 1))) (by omega)
        obtain ⟨M, hM⟩ : ∃ M, M = ab 9 (deepL 0 (l.take k)) := ⟨_, rfl⟩
        obtain ⟨M2, hM2⟩ : ∃ M2, M2 = ab 9 (deepL 0 (l.take (k + 1))) := ⟨_, rfl⟩
        rw [← hM] at hs
        rw [← hM2] at hs2
        rw [← hM]
        clear h2 h3 h5 h6
        by_cases hn : l[k].n = []
        · have hne : l[k].n.isEmpty = true := by simp [hn]
          have D1 : dpE 0 l[k] = 0 := by unfold dpE; rw [if_pos hn]
          have HX := Lib.hid (show M = M2 by have := HD.out; rw [D1] at this; omega)
          clear hn D1
          go_wp2
          go_round
          case rel => exact ⟨k + 1, by omega, by go_num, rfl, by rw [← hM2, HX.out]⟩
          case measure => simp [intOf]; omega
        · have hne : l[k].n.isEmpty = false := by cases e : l[k].n <;> simp_all
          have D1 : dpE 0 l[k] = 1 := by unfold dpE; rw [if_neg hn]
          have HX := Lib.hid (show M2 = 9 ∧ M ≤ 9 by have := HD.out; rw [D1] at this; omega)
          clear hn D1
          by_cases h9 : M = 9
          · have h9' : ¬ ((M : Int) < 9) := by omega
            go_wp2
            go_round
            case rel => exact ⟨k + 1, by omega, by go_num, rfl, by rw [← hM2, HX.out.1, h9]⟩
            case measure => simp [intOf]; omega
          · have h9' : ((M : Int) < 9) := by have := HX.out; omega
            go_wp2
            go_round
            case rel => exact ⟨k + 1, by omega, by go_num, rfl, by rw [← hM2, HX.out.1]; rfl⟩
            case measure => simp [intOf]; omega
      · have HE := Lib.hid (show l.take k = l from List.take_of_length_le (by omega))
        have HM := Lib.hid (show manyL 0 l = l.length by
          have := many_ex 0 l
          have h2 := exL_zero l
          omega)
        rw [HE.out]
        go_wp2
        go_ret2
        exact ⟨by rw [HM.out]; rfl, rfl⟩
  | succ f ih =>
    intro p l v P w hpf hp hc hN
    obtain ⟨ao, cap, rfl, hcap, hN⟩ := hN.get
    have hlen := cnt_len l
    have HN := Lib.hid hN
    have IH := Lib.hid ih
    have HC := Lib.hid hc
    have hp8 : (p : Int) ≤ 8 := by omega
    clear hN ih
    go_enter Tryz.func19, Tryz.ntmps19
    go_wp2
    go_loop [6, 7, 8] (fun m d i => ∃ k : Nat, k ≤ l.length ∧ i = .int .i64 k ∧ m = .int .i64 ((l.length + exL (f + 1) (l.take k) : Nat) : Int) ∧ d = .int .i64 ((ab p (deepL (f + 1) (l.take k)) : Nat) : Int)) (fun _ _ i => l.length - (intOf i).toNat)
    case atStart => exact ⟨0, Nat.zero_le _, rfl, by simp [exL], by simp [deepL, ab]⟩
    case round =>
      obtain ⟨k, hk, rfl, rfl, rfl⟩ := hrel
      have hs := ab_spec p (deepL (f + 1) (l.take k)) hp
      have hd1 := deep_bd (l.take k) (f + 1)
      by_cases hlt : k < l.length
      · obtain ⟨g, o, va, vk, rfl, hg, -, y1, h2, h3, y4, h5, h6⟩ := HN.out k hlt
        have HD := Lib.hid (show deepL (f + 1) (l.take (k + 1)) = max (deepL (f + 1) (l.take k)) (dpE (f + 1) l[k]) by rw [take_snoc l k hlt, deep_snoc])
        have HE := Lib.hid (show exL (f + 1) (l.take (k + 1)) = exL (f + 1) (l.take k) + exN (f + 1) l[k] by rw [take_snoc l k hlt, exL_snoc])
        have hs2 := ab_spec p (deepL (f + 1) (l.take (k + 1))) hp
        have hgk := cnt_get l k hlt
        have hm1 : l.length + exL (f + 1) (l.take k) ≤ 100000000 := by
          have h7 := many_ex (f + 1) (l.take k)
          have h8 := many_le (l.take k) (f + 1)
          have h9 : cntL l = cntL (l.take k) + cntL (l.drop k) := by rw [← cnt_app, List.take_append_drop]
          have h10 := cnt_len (l.drop k)
          simp only [List.length_take, List.length_drop] at h7 h10
          have := HC.out
          omega
        obtain ⟨M, hM⟩ : ∃ M, M = ab p (deepL (f + 1) (l.take k)) := ⟨_, rfl⟩
        obtain ⟨M2, hM2⟩ : ∃ M2, M2 = ab p (deepL (f + 1) (l.take (k + 1))) := ⟨_, rfl⟩
        obtain ⟨X, hX⟩ : ∃ X, X = l.length + exL (f + 1) (l.take k) := ⟨_, rfl⟩
        rw [← hM] at hs
        rw [← hM2] at hs2
        rw [← hX] at hm1
        rw [← hM, ← hX]
        clear h2 h3 h5
        by_cases hn : l[k].n = []
        · have hne : l[k].n.isEmpty = true := by simp [hn]
          have D1 : dpE (f + 1) l[k] = 0 := by unfold dpE; rw [if_pos hn]
          have E1 : exN (f + 1) l[k] = 0 := by unfold exN; rw [if_pos hn]
          have HX := Lib.hid (show M = M2 by have := HD.out; rw [D1] at this; omega)
          have HY := Lib.hid (show l.length + exL (f + 1) (l.take (k + 1)) = X by rw [HE.out, E1]; omega)
          clear hn D1 E1
          go_wp2
          go_round
          case rel => exact ⟨k + 1, by omega, by go_num, by rw [HY.out], by rw [← hM2, HX.out]⟩
          case measure => simp [intOf]; omega
        · have hne : l[k].n.isEmpty = false := by cases e : l[k].n <;> simp_all
          have D1 : dpE (f + 1) l[k] = 1 + deepL f l[k].k := by unfold dpE; rw [if_neg hn]
          have E1 : exN (f + 1) l[k] = manyL f l[k].k := by unfold exN; rw [if_neg hn]
          have hs3 := ab_spec (p + 1) (deepL f l[k].k) (by omega)
          have hmk := many_le l[k].k f
          have KC := (show Calls Tryz.prog 19 #[vk, .int .i64 ((p : Int) + 1)] w (fun e w' => e = .returned (.tuple #[.int .i64 (manyL f l[k].k : Nat), .int .i64 (ab (p + 1) (deepL f l[k].k) : Nat)]) ∧ w = w') from by
            have := IH.out (p + 1) l[k].k vk P w (by omega) (by omega) (by have := HC.out; omega) h6
            rw [show ((p + 1 : Nat) : Int) = (p : Int) + 1 by omega] at this
            exact this)
          obtain ⟨Y, hY⟩ : ∃ Y, Y = manyL f l[k].k := ⟨_, rfl⟩
          obtain ⟨Z, hZ⟩ : ∃ Z, Z = ab (p + 1) (deepL f l[k].k) := ⟨_, rfl⟩
          rw [← hY, ← hZ] at KC
          rw [← hZ] at hs3
          rw [← hY] at hmk
          have hYc : Y ≤ 100000000 := by have := HC.out; omega
          have HX := Lib.hid (show M2 = max (max M p) Z ∧ (M = 0 ∨ p ≤ M) by have := HD.out; rw [D1] at this; omega)
          have HY := Lib.hid (show l.length + exL (f + 1) (l.take (k + 1)) = X + Y by rw [HE.out, E1, hX, hY]; omega)
          have KH := Lib.hid KC
          clear hn D1 E1 KC h6
          by_cases c1 : (M : Int) < (p : Int)
          · by_cases c2 : (p : Int) < (Z : Int)
            · go_wp2_with (go_at_call 19; (with_reducible refine KH.out.mono ?_); rintro e w1 ⟨rfl, rfl⟩)
              go_round
              case rel => exact ⟨k + 1, by omega, by go_num, by rw [HY.out]; go_num, by rw [← hM2, HX.out.1]; go_num⟩
              case measure => simp [intOf]; omega
            · go_wp2_with (go_at_call 19; (with_reducible refine KH.out.mono ?_); rintro e w1 ⟨rfl, rfl⟩)
              go_round
              case rel => exact ⟨k + 1, by omega, by go_num, by rw [HY.out]; go_num, by rw [← hM2, HX.out.1]; go_num⟩
              case measure => simp [intOf]; omega
          · by_cases c2 : (M : Int) < (Z : Int)
            · go_wp2_with (go_at_call 19; (with_reducible refine KH.out.mono ?_); rintro e w1 ⟨rfl, rfl⟩)
              go_round
              case rel => exact ⟨k + 1, by omega, by go_num, by rw [HY.out]; go_num, by rw [← hM2, HX.out.1]; go_num⟩
              case measure => simp [intOf]; omega
            · go_wp2_with (go_at_call 19; (with_reducible refine KH.out.mono ?_); rintro e w1 ⟨rfl, rfl⟩)
              go_round
              case rel => exact ⟨k + 1, by omega, by go_num, by rw [HY.out]; go_num, by rw [← hM2, HX.out.1]; go_num⟩
              case measure => simp [intOf]; omega
      · have HE := Lib.hid (show l.take k = l from List.take_of_length_le (by omega))
        have HM := Lib.hid (many_ex (f + 1) l)
        rw [HE.out, ← HM.out]
        go_wp2
        go_ret2
        exact ⟨rfl, rfl⟩
end Go.Proofs.YtkacjnifhmgeiaaGreatDoor

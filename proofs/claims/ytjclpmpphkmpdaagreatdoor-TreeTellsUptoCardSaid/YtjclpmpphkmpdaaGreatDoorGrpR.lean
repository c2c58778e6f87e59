/- Trees: the reference's count; nodesAre. · Trees: the reference's CheckTree. · Trees: the reference's joinText. -/
import Derived.Test.YtjclpmpphkmpdaaGreatDoorGrpH
import Derived.Test.YtjclpmpphkmpdaaGreatDoorTreR
import Derived.Test.YtjclpmpphkmpdaaGreatDoorTreRe
import Derived.Test.YtjclpmpphkmpdaaGreatDoorTreIa
import Derived.Test.YtjclpmpphkmpdaaGreatDoorTreU
import Derived.Test.YtjclpmpphkmpdaaGreatDoorTreT
namespace Go.Proofs.YtjclpmpphkmpdaaGreatDoor
open Go.RowKit

/-- How deep, told from a depth on. -/
def ab (p d : Nat) : Nat := if d = 0 then 0 else p - 1 + d
theorem exL_zero (l : List Nd) : exL 0 l = 0 := by
  induction l with
  | nil => rfl
  | cons d l ih =>
    have h : exN 0 d = 0 := by unfold exN; split <;> rfl
    simp only [exL, List.map_cons, List.sum_cons] at *
    omega
theorem ab_spec (p d : Nat) (hp : 1 ≤ p) : (d = 0 ∧ ab p d = 0) ∨ (1 ≤ d ∧ ab p d + 1 = p + d) := by
  unfold ab
  by_cases h : d = 0
  · left; simp [h]
  · right; rw [if_neg h]; omega
set_option maxRecDepth 100000 in
set_option maxHeartbeats 4000000 in
theorem count_c (f : Nat) : ∀ (p : Nat) (l : List Nd) (v : Value) (P : Nat → Prop) (w : World), p + f = 9 → 1 ≤ p → cntL l ≤ 100000000 → NdS w P v l →
    Calls Tryz.prog 21 #[v, .int .i64 (p : Int)] w fun e w' => e = .returned (.tuple #[.int .i64 (manyL f l : Nat), .int .i64 (ab p (deepL f l) : Nat)]) ∧ w = w' := by
  induction f with
  | zero =>
    intro p l v P w hpf hp hc hN
    obtain rfl : p = 9 := by omega
    obtain ⟨ao, cap, rfl, hcap, hN⟩ := hN.get
    have hlen := cnt_len l
    have HN := Lib.hid hN
    have HC := Lib.hid hc
    clear hN
    rw [show ((9 : Nat) : Int) = 9 from rfl]
    go_enter Tryz.func21, Tryz.ntmps21
    go_wp2
    go_loop [6, 7, 8] (fun m d i => ∃ k : Nat, k ≤ l.length ∧ i = .int .i64 k ∧ m = .int .i64 ((l.length : Nat) : Int) ∧ d = .int .i64 ((ab 9 (deepL 0 (l.take k)) : Nat) : Int)) (fun _ _ i => l.length - (intOf i).toNat)
    case atStart => exact ⟨0, Nat.zero_le _, rfl, rfl, by simp [deepL, ab]⟩
    case round =>
      obtain ⟨k, hk, rfl, rfl, rfl⟩ := hrel
      have hs := ab_spec 9 (deepL 0 (l.take k)) (by omega)
      have hd1 := deep_bd (l.take k) 0
      by_cases hlt : k < l.length
      · obtain ⟨g, o, va, vk, rfl, hg, -, y1, h2, h3, y4, h5, h6⟩ := HN.out k hlt
        have HD := Lib.hid (show deepL 0 (l.take (k + 1)) = max (deepL 0 (l.take k)) (dpE 0 l[k]) by rw [take_snoc l k hlt, deep_snoc])
        have hs2 := ab_spec 9 (deepL 0 (l.take (k + 1))) (by omega)
        obtain ⟨M, hM⟩ : ∃ M, M = ab 9 (deepL 0 (l.take k)) := ⟨_, rfl⟩
        obtain ⟨M2, hM2⟩ : ∃ M2, M2 = ab 9 (deepL 0 (l.take (k + 1))) := ⟨_, rfl⟩
        rw [← hM] at hs
        rw [← hM2] at hs2
        rw [← hM]
        clear h2 h3 h5 h6
        by_cases hn : l[k].n = []
        · have hne : l[k].n.isEmpty = true := by simp [hn]
          have D1 : dpE 0 l[k] = 0 := by unfold dpE; rw [if_pos hn]
          have HX := Lib.hid (show M = M2 by have := HD.out; rw [D1] at this; omega)
          clear hn D1
          go_wp2
          go_round
          case rel => exact ⟨k + 1, by omega, by go_num, rfl, by rw [← hM2, HX.out]⟩
          case measure => simp [intOf]; omega
        · have hne : l[k].n.isEmpty = false := by cases e : l[k].n <;> simp_all
          have D1 : dpE 0 l[k] = 1 := by unfold dpE; rw [if_neg hn]
          have HX := Lib.hid (show M2 = 9 ∧ M ≤ 9 by have := HD.out; rw [D1] at this; omega)
          clear hn D1
          by_cases h9 : M = 9
          · have h9' : ¬ ((M : Int) < 9) := by omega
            go_wp2
            go_round
            case rel => exact ⟨k + 1, by omega, by go_num, rfl, by rw [← hM2, HX.out.1, h9]⟩
            case measure => simp [intOf]; omega
          · have h9' : ((M : Int) < 9) := by have := HX.out; omega
            go_wp2
            go_round
            case rel => exact ⟨k + 1, by omega, by go_num, rfl, by rw [← hM2, HX.out.1]; rfl⟩
            case measure => simp [intOf]; omega
      · have HE := Lib.hid (show l.take k = l from List.take_of_length_le (by omega))
        have HM := Lib.hid (show manyL 0 l = l.length by
          have := many_ex 0 l
          have h2 := exL_zero l
          omega)
        rw [HE.out]
        go_wp2
        go_ret2
        exact ⟨by rw [HM.out]; rfl, rfl⟩
  | succ f ih =>
    intro p l v P w hpf hp hc hN
    obtain ⟨ao, cap, rfl, hcap, hN⟩ := hN.get
    have hlen := cnt_len l
    have HN := Lib.hid hN
    have IH := Lib.hid ih
    have HC := Lib.hid hc
    have hp8 : (p : Int) ≤ 8 := by omega
    clear hN ih
    go_enter Tryz.func21, Tryz.ntmps21
    go_wp2
    go_loop [6, 7, 8] (fun m d i => ∃ k : Nat, k ≤ l.length ∧ i = .int .i64 k ∧ m = .int .i64 ((l.length + exL (f + 1) (l.take k) : Nat) : Int) ∧ d = .int .i64 ((ab p (deepL (f + 1) (l.take k)) : Nat) : Int)) (fun _ _ i => l.length - (intOf i).toNat)
    case atStart => exact ⟨0, Nat.zero_le _, rfl, by simp [exL], by simp [deepL, ab]⟩
    case round =>
      obtain ⟨k, hk, rfl, rfl, rfl⟩ := hrel
      have hs := ab_spec p (deepL (f + 1) (l.take k)) hp
      have hd1 := deep_bd (l.take k) (f + 1)
      by_cases hlt : k < l.length
      · obtain ⟨g, o, va, vk, rfl, hg, -, y1, h2, h3, y4, h5, h6⟩ := HN.out k hlt
        have HD := Lib.hid (show deepL (f + 1) (l.take (k + 1)) = max (deepL (f + 1) (l.take k)) (dpE (f + 1) l[k]) by rw [take_snoc l k hlt, deep_snoc])
        have HE := Lib.hid (show exL (f + 1) (l.take (k + 1)) = exL (f + 1) (l.take k) + exN (f + 1) l[k] by rw [take_snoc l k hlt, exL_snoc])
        have hs2 := ab_spec p (deepL (f + 1) (l.take (k + 1))) hp
        have hgk := cnt_get l k hlt
        have hm1 : l.length + exL (f + 1) (l.take k) ≤ 100000000 := by
          have h7 := many_ex (f + 1) (l.take k)
          have h8 := many_le (l.take k) (f + 1)
          have h9 : cntL l = cntL (l.take k) + cntL (l.drop k) := by rw [← cnt_app, List.take_append_drop]
          have h10 := cnt_len (l.drop k)
          simp only [List.length_take, List.length_drop] at h7 h10
          have := HC.out
          omega
        obtain ⟨M, hM⟩ : ∃ M, M = ab p (deepL (f + 1) (l.take k)) := ⟨_, rfl⟩
        obtain ⟨M2, hM2⟩ : ∃ M2, M2 = ab p (deepL (f + 1) (l.take (k + 1))) := ⟨_, rfl⟩
        obtain ⟨X, hX⟩ : ∃ X, X = l.length + exL (f + 1) (l.take k) := ⟨_, rfl⟩
        rw [← hM] at hs
        rw [← hM2] at hs2
        rw [← hX] at hm1
        rw [← hM, ← hX]
        clear h2 h3 h5
        by_cases hn : l[k].n = []
        · have hne : l[k].n.isEmpty = true := by simp [hn]
          have D1 : dpE (f + 1) l[k] = 0 := by unfold dpE; rw [if_pos hn]
          have E1 : exN (f + 1) l[k] = 0 := by unfold exN; rw [if_pos hn]
          have HX := Lib.hid (show M = M2 by have := HD.out; rw [D1] at this; omega)
          have HY := Lib.hid (show l.length + exL (f + 1) (l.take (k + 1)) = X by rw [HE.out, E1]; omega)
          clear hn D1 E1
          go_wp2
          go_round
          case rel => exact ⟨k + 1, by omega, by go_num, by rw [HY.out], by rw [← hM2, HX.out]⟩
          case measure => simp [intOf]; omega
        · have hne : l[k].n.isEmpty = false := by cases e : l[k].n <;> simp_all
          have D1 : dpE (f + 1) l[k] = 1 + deepL f l[k].k := by unfold dpE; rw [if_neg hn]
          have E1 : exN (f + 1) l[k] = manyL f l[k].k := by unfold exN; rw [if_neg hn]
          have hs3 := ab_spec (p + 1) (deepL f l[k].k) (by omega)
          have hmk := many_le l[k].k f
          have KC := (show Calls Tryz.prog 21 #[vk, .int .i64 ((p : Int) + 1)] w (fun e w' => e = .returned (.tuple #[.int .i64 (manyL f l[k].k : Nat), .int .i64 (ab (p + 1) (deepL f l[k].k) : Nat)]) ∧ w = w') from by
            have := IH.out (p + 1) l[k].k vk P w (by omega) (by omega) (by have := HC.out; omega) h6
            rw [show ((p + 1 : Nat) : Int) = (p : Int) + 1 by omega] at this
            exact this)
          obtain ⟨Y, hY⟩ : ∃ Y, Y = manyL f l[k].k := ⟨_, rfl⟩
          obtain ⟨Z, hZ⟩ : ∃ Z, Z = ab (p + 1) (deepL f l[k].k) := ⟨_, rfl⟩
          rw [← hY, ← hZ] at KC
          rw [← hZ] at hs3
          rw [← hY] at hmk
          have hYc : Y ≤ 100000000 := by have := HC.out; omega
          have HX := Lib.hid (show M2 = max (max M p) Z ∧ (M = 0 ∨ p ≤ M) by have := HD.out; rw [D1] at this; omega)
          have HY := Lib.hid (show l.length + exL (f + 1) (l.take (k + 1)) = X + Y by rw [HE.out, E1, hX, hY]; omega)
          have KH := Lib.hid KC
          clear hn D1 E1 KC h6
          by_cases c1 : (M : Int) < (p : Int)
          · by_cases c2 : (p : Int) < (Z : Int)
            · go_wp2_with (go_at_call 21; (with_reducible refine KH.out.mono ?_); rintro e w1 ⟨rfl, rfl⟩)
              go_round
              case rel => exact ⟨k + 1, by omega, by go_num, by rw [HY.out]; go_num, by rw [← hM2, HX.out.1]; go_num⟩
              case measure => simp [intOf]; omega
            · go_wp2_with (go_at_call 21; (with_reducible refine KH.out.mono ?_); rintro e w1 ⟨rfl, rfl⟩)
              go_round
              case rel => exact ⟨k + 1, by omega, by go_num, by rw [HY.out]; go_num, by rw [← hM2, HX.out.1]; go_num⟩
              case measure => simp [intOf]; omega
          · by_cases c2 : (M : Int) < (Z : Int)
            · go_wp2_with (go_at_call 21; (with_reducible refine KH.out.mono ?_); rintro e w1 ⟨rfl, rfl⟩)
              go_round
              case rel => exact ⟨k + 1, by omega, by go_num, by rw [HY.out]; go_num, by rw [← hM2, HX.out.1]; go_num⟩
              case measure => simp [intOf]; omega
            · go_wp2_with (go_at_call 21; (with_reducible refine KH.out.mono ?_); rintro e w1 ⟨rfl, rfl⟩)
              go_round
              case rel => exact ⟨k + 1, by omega, by go_num, by rw [HY.out]; go_num, by rw [← hM2, HX.out.1]; go_num⟩
              case measure => simp [intOf]; omega
      · have HE := Lib.hid (show l.take k = l from List.take_of_length_le (by omega))
        have HM := Lib.hid (many_ex (f + 1) l)
        rw [HE.out, ← HM.out]
        go_wp2
        go_ret2
        exact ⟨rfl, rfl⟩
set_option maxHeartbeats 1000000 in
/-- What is beside no error. -/
theorem nodesAre_ok (a b : List Nd) (_e : Int) (va vb : Value) (P Q : Nat → Prop) (w : World) (hw : wtL a ≤ 9000000) (ha : NdS w P va a) (hb : NdS w Q vb b) :
    Calls Tryz.prog 13 #[va, .int .i64 0, .int .i64 0, vb] w fun e w' => e = .returned (.bool (sameL a b)) ∧ Qt w w' := by
  have SC := Lib.hid (sameNodes_c 9500000 a b va vb P Q w (by omega) (by omega) ha hb)
  clear ha hb
  go_enter Tryz.func13, Tryz.ntmps13
  go_wp2_with (go_at_call 28; (with_reducible refine SC.out.mono ?_); rintro e w1 ⟨rfl, hb1⟩)
  go_ret
  exact ⟨rfl, hb1⟩
set_option maxHeartbeats 1000000 in
theorem nodesAre_no (q : Int) (va vb : Value) (P : Nat → Prop) (w : World) (hq : q ≠ 0) (ha : NdS w P va []) :
    Calls Tryz.prog 13 #[va, .int .i64 q, .int .i64 q, vb] w fun e w' => e = .returned (.bool true) ∧ Qt w w' := by
  have SC := Lib.hid (show Calls Tryz.prog 28 #[va, .slice none 0 0] w (fun e w' => e = .returned (.bool true) ∧ Qt w w') from by have := sameNodes_c 1 [] [] va (.slice none 0 0) P P w (by simp [wtL]) (by omega) ha (NdS.nil _ _); exact this)
  have hq2 : (q != 0) = true := by simpa using hq
  have hq3 : (q == 0) = false := by simpa using hq
  clear ha hq
  go_enter Tryz.func13, Tryz.ntmps13
  go_wp2_with (go_at_call 28; (with_reducible refine SC.out.mono ?_); rintro e w1 ⟨rfl, hb1⟩)
  go_ret
  exact ⟨rfl, hb1⟩
end Go.Proofs.YtjclpmpphkmpdaaGreatDoor

namespace Go.Proofs.YtjclpmpphkmpdaaGreatDoor
open Go.RowKit

theorem ab_one (d : Nat) : ab 1 d = d := by unfold ab; split <;> omega
set_option maxHeartbeats 2000000 in
theorem checkTree_c (l : List Nd) (v : Value) (P : Nat → Prop) (w : World) (hl : wtL l ≤ 9000000) (hA : NdS w P v l) :
    Calls Tryz.prog 7 #[v] w fun e w' => e = .returned (.int .i64 (ckT l)) ∧ Bl w w' := by
  have hc := wt_cnt l
  have SC := Lib.hid (show Calls Tryz.prog 21 #[v, .int .i64 1] w (fun e w' => e = .returned (.tuple #[.int .i64 (manyL 8 l : Nat), .int .i64 (deepL 8 l : Nat)]) ∧ w = w') from by
    have r := count_c 8 1 l v P w (by omega) (by omega) (by omega) hA
    rw [ab_one] at r
    exact r)
  have KC := Lib.hid (fun W (hb : Bl w W) => checkNodes_c 9500000 l [] v (.slice none 0 0) P W (by omega) (by simp) (hA.of_bl hb) ⟨none, 0, rfl, Nat.le_refl _, fun i hi => absurd hi (by simp)⟩)
  have h1 := many_le l 8
  have h2 := deep_bd l 8
  obtain ⟨m, hm⟩ : ∃ m, m = manyL 8 l := ⟨_, rfl⟩
  obtain ⟨d, hd⟩ : ∃ d, d = deepL 8 l := ⟨_, rfl⟩
  have HT := Lib.hid (show ckT l = if 3000 < m ∨ 8 < d then 2 else ckL [] false l by unfold ckT; rw [hm, hd])
  rw [← hm, ← hd] at SC
  rw [← hm] at h1
  rw [← hd] at h2
  clear hm hd hA
  by_cases c1 : 3000 < m
  · have HR := Lib.hid (show ckT l = 2 by rw [HT.out, if_pos (.inl c1)])
    have c1' : (3000 : Int) < (m : Int) := by omega
    go_enter Tryz.func7, Tryz.ntmps7
    go_wp2_with (go_at_call 21; (with_reducible refine SC.out.mono ?_); rintro e w1 ⟨rfl, rfl⟩)
    go_ret
    exact ⟨ret_int HR.out.symm, Bl.refl _⟩
  by_cases c2 : 8 < d
  · have HR := Lib.hid (show ckT l = 2 by rw [HT.out, if_pos (.inr c2)])
    have c1' : ¬ (3000 : Int) < (m : Int) := by omega
    have c2' : (8 : Int) < (d : Int) := by omega
    go_enter Tryz.func7, Tryz.ntmps7
    go_wp2_with (go_at_call 21; (with_reducible refine SC.out.mono ?_); rintro e w1 ⟨rfl, rfl⟩)
    go_ret
    exact ⟨ret_int HR.out.symm, Bl.refl _⟩
  · have HR := Lib.hid (show ckT l = ckL [] false l by rw [HT.out, if_neg (by omega)])
    have c1' : ¬ (3000 : Int) < (m : Int) := by omega
    have c2' : ¬ (8 : Int) < (d : Int) := by omega
    go_enter Tryz.func7, Tryz.ntmps7
    go_wp2_with (first | (go_at_call 21; (with_reducible refine SC.out.mono ?_); rintro e w1 ⟨rfl, rfl⟩) | (go_at_call 22; (with_reducible refine (KC.out _ (Bl.refl _)).mono ?_); rintro e w2 ⟨rfl, hb2⟩))
    go_ret
    exact ⟨ret_int HR.out.symm, hb2⟩
end Go.Proofs.YtjclpmpphkmpdaaGreatDoor

namespace Go.Proofs.YtjclpmpphkmpdaaGreatDoor
open Go.RowKit

theorem ndV_one (l : List Nent) (h : ∀ p ∈ l, p.2.1.oneCell' = true ∧ p.2.2.oneCell' = true) : ∀ u ∈ ndV l, u.oneCell' = true := by
  intro u hu
  simp only [ndV, List.mem_flatMap] at hu
  obtain ⟨p, hp, hu⟩ := hu
  simp only [List.mem_cons, List.not_mem_nil, or_false] at hu
  rcases hu with rfl | rfl | rfl | rfl
  · rfl
  · exact (h p hp).1
  · rfl
  · exact (h p hp).2
theorem NdO.ones {w : World} {base : Nat} {P : Nat → Prop} {v : Value} {l : List Nd} {ents : List Nent} (h : NdO w base P v l ents) : ∀ u ∈ ndV ents, u.oneCell' = true :=
  ndV_one ents fun p hp => by
    obtain ⟨⟨a, c, e, _⟩, ⟨a2, c2, e2, _⟩⟩ := h.all p hp
    rw [e, e2]; exact ⟨rfl, rfl⟩
theorem NdO.base_le {w : World} {base base' : Nat} {P : Nat → Prop} {v : Value} {l : List Nd} {ents : List Nent} (h : NdO w base P v l ents) (hb : base' ≤ base) : NdO w base' P v l ents := ⟨h.eq, own_baseT h.row hb, h.low, h.all⟩
/-- What is appended to own nodes: a node more. -/
theorem jt_more {W w6 wz : World} {base : Nat} {P : Nat → Prop} {v v' va vk : Value} {x : List Nd} {ents : List Nent} (d : Nd) (H : NdO W base P v x ents) (hP : ∀ k, P k → k < W.heap.size) (hbase : base ≤ W.heap.size) (hb : Bl W w6) (ha : AtP w6 P va d.a) (hk : NdS w6 P vk d.k)
    (hown : wz.ownsRow base 51 4 v' (ents.length + 1) (ndV ents ++ [.string ⟨d.n.toArray⟩, va, .string ⟨d.x.toArray⟩, vk])) (hg : Grew w6 wz v v') : NdO wz base P v' (x ++ [d]) (ents ++ [(d, va, vk)]) ∧ Below base W wz := by
  refine ⟨NdO.snoc d va vk (H.of_bl hb) (fun k hk => Nat.lt_of_lt_of_le (hP k hk) (Below.size hb)) ha hk hown hg, ?_⟩
  have h1 : Below base W w6 := Below.mono hb hbase
  refine h1.trans ?_
  have hs := Below.size hb
  rcases hg with ⟨_, hg⟩ | ⟨hg, _⟩
  · exact below_gr hg (fun j hj => (H.lt j hj).1) (by omega)
  · exact below_gr hg (fun j hj => by cases hj) (by omega)
/-- Own nodes have been copied into a row of their own. -/
theorem jt_copy {W w6 wz : World} {base : Nat} {P : Nat → Prop} {v u v' : Value} {x : List Nd} {ents : List Nent} (H : NdO W base P v x ents) (hP : ∀ k, P k → k < W.heap.size) (hb : Bl W w6) (hu : ∀ j, u.ownBlock = some j → W.heap.size ≤ j)
    (hown : wz.ownsRow W.heap.size 51 4 v' ents.length (ndV ents)) (hg : w6.grownBy wz u.ownBlock) : NdO wz W.heap.size P v' x ents ∧ Bl W wz := by
  have hbz : Bl W wz := Below.trans hb (bel_gr hg hu (Below.size hb))
  refine ⟨⟨H.eq, hown, fun k hk hp => ?_, fun p hp => ⟨(H.all p hp).1.still (Still.of_bl hbz), (H.all p hp).2.of_bl hbz⟩⟩, hbz⟩
  have := (World.ownsRow.lt hown k hk).1
  have := hP k hp
  omega
set_option maxRecDepth 100000 in
set_option maxHeartbeats 4000000 in
theorem joinText_c (base : Nat) (P : Nat → Prop) (x : List Nd) (ents : List Nent) (v : Value) (t : List UInt8) (w : World) (H : NdO w base P v x ents) (hP : ∀ k, P k → k < w.heap.size) (hbase : base ≤ w.heap.size) (hx : x.length ≤ 10000000) (ht : t.length ≤ 100000000)
    (hlast : ∀ c ∈ x, c.x.length ≤ 100000000) :
    Calls Tryz.prog 23 #[v, .agg #[.string ⟨#[]⟩, .slice none 0 0, .string ⟨t.toArray⟩, .slice none 0 0]] w fun e w' => ∃ v' ents', e = .returned v' ∧ NdO w' base P v' (pt x (.mk [] [] t [])) ents' ∧ Below base w w' := by
  obtain ⟨i0, hi, hz0, hz1, hz2⟩ := info_parts Tryz.infoNod
  obtain ⟨ax, cx, hv, hxc⟩ := own_shp H.row
  have hel := H.len
  rcases List.eq_nil_or_concat x with rfl | ⟨o, c, hxe⟩
  · have h0 : ents = [] := List.eq_nil_of_length_eq_zero (by simpa using hel)
    subst h0
    subst hv
    have HH := Lib.hid H
    clear H
    go_enter Tryz.func23, Tryz.ntmps23
    go_wp2_with (at_builtin; refine Hid.out ?_)
    refine Lib.hid ?_
    refine wpList_append_gr _ rfl _ _ 23 rfl base 51 i0 (.agg #[.string ⟨#[]⟩, .slice none 0 0, .string ⟨#[]⟩, .slice none 0 0]) 4 80 Tryz.underlying23 hi hz0 hz1 hz2 rfl (by decide) (.slice ax 0 cx) 0 (ndV []) rfl (own_bl HH.out.row (by repeat (first | exact Bl.refl _ | refine Bl.drew ?_ | refine Bl.alloc ?_ _))) ⟨w.heap.size + 1, 0, none⟩ 1 1 [.string ⟨#[]⟩, .slice none 0 0, .string ⟨t.toArray⟩, .slice none 0 0] rfl rfl (new_cells2 w _ #[.string ⟨#[]⟩, .slice none 0 0, .string ⟨t.toArray⟩, .slice none 0 0] _) (by simp [Value.oneCell']) (by decide) (by unfold maxLen; omega) (by omega) (by simp; omega) ?_
    intro v' wz hown hg
    obtain ⟨h1, h2⟩ := jt_more (.mk [] [] t []) HH.out hP hbase (by repeat (first | exact Bl.refl _ | refine Bl.drew ?_ | refine Bl.alloc ?_ _)) (AtP.nil _ _) (NdS.nil _ _) hown hg
    clear hown hg
    go_wp2
    go_ret
    exact ⟨_, _, rfl, h1, h2⟩
  · rw [List.concat_eq_append] at hxe
    have hX1 : (0 : Int) < (x.length : Int) := by rw [hxe]; simp <;> omega
    rw [hel] at hv hxc
    subst hv
    obtain ⟨gx, rfl, x0, x1, x2, x3⟩ := H.lastc o c hxe
    have hi1 : (x.length : Int) - 1 = (o.length : Int) := by rw [hxe]; simp
    have hi2 : (o.length : Int) < (x.length : Int) := by omega
    have hcx := hlast c (by rw [hxe]; simp)
    have HH := Lib.hid H
    have HXE := Lib.hid hxe
    have HEL := Lib.hid hel
    by_cases hn : c.n = []
    · have hpt := Lib.hid (show pt x (.mk [] [] t []) = o ++ [.mk c.n c.a (c.x ++ t) c.k] by
        rw [hxe]; unfold pt; cases c with | mk n a y k => simp only [Nd.n] at hn; subst hn; simp [Nd.n, Nd.a, Nd.x, Nd.k])
      have hne : c.n.isEmpty = true := by simp [hn]
      clear H hxe hel hn
      go_enter Tryz.func23, Tryz.ntmps23
      go_wp2_with (at_builtin; refine Hid.out ?_)
      refine Lib.hid ?_
      refine wpList_append_row _ rfl _ _ 23 rfl w.heap.size base 51 i0 (.agg #[.string ⟨#[]⟩, .slice none 0 0, .string ⟨#[]⟩, .slice none 0 0]) 4 80 Tryz.underlying23 hi hz0 hz1 hz2 rfl (by decide) (.slice (some ⟨w.heap.size + 1, 0, none⟩) 0 0) 0 [] rfl (by have := World.ownsRow_made (base := w.heap.size) (e := 51) (size := 4) (w.alloc (.cells #[.string ⟨#[]⟩, .slice none 0 0, .string ⟨t.toArray⟩, .slice none 0 0] 51)) #[] 0 (by simp) (by decide) rfl; simpa using this) (.slice (some ⟨gx, 0, none⟩) x.length cx) ents.length (ndV ents) rfl (own_bl (by have := HH.out.row; rw [HEL.out] at this ⊢; exact this) (by repeat (first | exact Bl.refl _ | refine Bl.drew ?_ | refine Bl.alloc ?_ _))) HH.out.ones (by rw [HEL.out]; unfold maxLen; omega) (by rw [HEL.out]; omega) (by simp; omega) ?_
      intro v' wz hown hg
      have b2 : wz.cell? ⟨w.heap.size, 2, none⟩ = some (.string ⟨t.toArray⟩) := (hg.cell_far ⟨w.heap.size, 2, none⟩ (by simp <;> omega) (by simp [Value.ownBlock])).trans (by simp)
      obtain ⟨hN, hbz⟩ := jt_copy HH.out hP (by repeat (first | exact Bl.refl _ | refine Bl.drew ?_ | refine Bl.alloc ?_ _)) (fun j hj => by simp only [Value.ownBlock, Option.some.injEq] at hj; omega) (by simpa using hown) hg
      have hsz := Below.size hbz
      have hwz : w.heap.size < wz.heap.size := by have := hg.size; simp at this; omega
      clear hown hg
      obtain ⟨az, cz, rfl, -⟩ := own_shp hN.row
      obtain ⟨gz, rfl, e0, e1, e2, e3⟩ := hN.lastc o c HXE.out
      have hgz := (hN.lt gz rfl).1
      have hel2 := HEL.out
      obtain ⟨ents', hf⟩ := NdO.settext (l := o) (d := c) (by have h9 := hN; rw [HXE.out] at h9; exact h9) (c.x ++ t)
      have HF := Lib.hid hf
      have HB := Lib.hid (Below.mono (show Bl w (wz.setCell ⟨gz, o.length * 4 + 2, none⟩ (.string ⟨(c.x ++ t).toArray⟩)) from Below.setCell hbz hgz _) hbase)
      clear hf hN hbz
      rw [hel2]
      go_wp2
      have hw1 : IntKind.i64.wrap (o.length : Int) = (o.length : Int) := by go_arith
      have hw2 : IntKind.i64.wrap ((x.length : Int) - 1) = (o.length : Int) := by go_arith
      have hi3 : (0 : Int) ≤ (o.length : Int) := by omega
      go_region
      all_goals
        go_wp2
        go_ret
        exact ⟨_, ents', rfl, by rw [hpt.out]; have h8 := HF.out.base_le hbase; rw [hel2] at h8; exact h8.of_bl (by repeat (first | exact Bl.refl _ | refine Bl.drewN ?_ _ | refine Bl.drew ?_)), by repeat (first | exact HB.out | refine Below.drew ?_)⟩
    · have hpt := Lib.hid (show pt x (.mk [] [] t []) = x ++ [.mk [] [] t []] by
        rw [hxe]; unfold pt; cases c with | mk n a y k => cases n with | nil => exact absurd rfl hn | cons u n => simp)
      have hne : c.n.isEmpty = false := by cases e : c.n <;> simp_all
      clear H hxe hel hn
      go_enter Tryz.func23, Tryz.ntmps23
      go_wp2_with (at_builtin; refine Hid.out ?_)
      refine Lib.hid ?_
      refine wpList_append_gr _ rfl _ _ 23 rfl base 51 i0 (.agg #[.string ⟨#[]⟩, .slice none 0 0, .string ⟨#[]⟩, .slice none 0 0]) 4 80 Tryz.underlying23 hi hz0 hz1 hz2 rfl (by decide) (.slice (some ⟨gx, 0, none⟩) x.length cx) ents.length (ndV ents) rfl (own_bl (by have := HH.out.row; rw [HEL.out] at this ⊢; exact this) (by repeat (first | exact Bl.refl _ | refine Bl.drew ?_ | refine Bl.alloc ?_ _))) ⟨w.heap.size + 1, 0, none⟩ 1 1 [.string ⟨#[]⟩, .slice none 0 0, .string ⟨t.toArray⟩, .slice none 0 0] rfl rfl (new_cells2 w _ #[.string ⟨#[]⟩, .slice none 0 0, .string ⟨t.toArray⟩, .slice none 0 0] _) (by simp [Value.oneCell']) (by decide) (by rw [HEL.out]; unfold maxLen; omega) (by rw [HEL.out]; omega) (by simp; omega) ?_
      intro v' wz hown hg
      obtain ⟨h1, h2⟩ := jt_more (.mk [] [] t []) HH.out hP hbase (by repeat (first | exact Bl.refl _ | refine Bl.drew ?_ | refine Bl.alloc ?_ _)) (AtP.nil _ _) (NdS.nil _ _) hown hg
      clear hown hg
      go_wp2
      go_ret
      exact ⟨_, _, rfl, by rw [hpt.out]; exact h1, h2⟩
end Go.Proofs.YtjclpmpphkmpdaaGreatDoor

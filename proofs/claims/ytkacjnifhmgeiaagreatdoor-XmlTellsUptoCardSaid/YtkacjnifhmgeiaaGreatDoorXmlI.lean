/- Documents: kids of an element. -/
import Derived.Test.YtkacjnifhmgeiaaGreatDoorXmlH
import Derived.Test.YtkacjnifhmgeiaaGreatDoorGrpL
import Derived.Test.YtkacjnifhmgeiaaGreatDoorXmlG
namespace Go.Proofs.YtkacjnifhmgeiaaGreatDoor
open Go.RowKit

/-- How an element that is read ends. -/
def ElEnd (w0 : World) (b : Nat) (s : List UInt8) (R : Except Int (Nd × List UInt8)) (e : Ending) (w' : World) : Prop :=
  w0.grownBy w' (some b) ∧ match R with
    | .error n => e = .panicked (ERN n)
    | .ok (d, u) => ∃ va vk, e = .returned (.agg #[.string ⟨d.n.toArray⟩, va, .string ⟨d.x.toArray⟩, vk]) ∧ Xr w' b s u ∧ ∃ P, AtP w' P va d.a ∧ NdS w' P vk d.k ∧ ∀ k, P k → w0.heap.size ≤ k ∧ k < w'.heap.size
/-- How kids that are read end. -/
def KiEnd (w0 : World) (b : Nat) (s : List UInt8) (R : Except Int (List Nd × List UInt8)) (e : Ending) (w' : World) : Prop :=
  w0.grownBy w' (some b) ∧ match R with
    | .error n => e = .panicked (ERN n)
    | .ok (l, u) => ∃ v, e = .returned v ∧ Xr w' b s u ∧ ∃ P, NdS w' P v l ∧ ∀ k, P k → w0.heap.size ≤ k ∧ k < w'.heap.size
/-- Elements with so much fuel are read as told. -/
def ElC (b : Nat) (s : List UInt8) (k : Nat) : Prop := ∀ (deep : Nat) (t : List UInt8) (w : World), 2 * t.length + 1 ≤ k → deep ≤ 9 → Xr w b s t → ES w → ML w →
  Calls Tryz.prog 36 #[.pointer (some ⟨b, 0, none⟩), .int .i64 (deep : Int)] w (ElEnd w b s (elF k deep t))
theorem NdO.of_gb {w w' : World} {base b : Nat} {P : Nat → Prop} {v : Value} {l : List Nd} {ents : List Nent} (h : NdO w base P v l ents) (hg : w.grownBy w' (some b)) (hP : ∀ k, P k → base ≤ k) (hb : b < base) : NdO w' base P v l ents :=
  h.still (Still.of_gr hg (fun k e => by
    cases e
    rintro (hp | ho)
    · have := hP b hp; omega
    · have := (h.lt b ho).1; omega))
theorem gb_below {w w1 wz : World} {b : Nat} (h : w.grownBy w1 (some b)) (hb : Below w.heap.size w1 wz) : w.grownBy wz (some b) :=
  ⟨(Below.os hb).trans h.os, (Below.tape hb).trans h.tape, (Below.output hb).trans h.output, Nat.le_trans h.size (Below.size hb), fun k hk hne => (Below.block hb k hk).trans (h.block k hk hne)⟩
theorem Xr.below {w wz : World} {b base : Nat} {s t : List UInt8} (h : Xr w b s t) (hb : Below base w wz) (hlt : b < base) : Xr wz b s t :=
  ⟨by have := h.rk; unfold Xk at *; rw [Below.block hb b hlt]; exact this, h.sf⟩
/-- A kid more. -/
theorem ki_more {w w1 w2 w6 wz : World} {b : Nat} {s u : List UInt8} {P Q : Nat → Prop} {v v' va vk : Value} {x : List Nd} {ents : List Nent} (d : Nd) (hbw : b < w.heap.size) (H : NdO w1 w.heap.size P v x ents) (hP : ∀ k, P k → w.heap.size ≤ k ∧ k < w1.heap.size) (hg1 : w.grownBy w1 (some b)) (hg2 : w1.grownBy w2 (some b)) (hR : Xr w2 b s u)
    (ha : AtP w2 Q va d.a) (hk : NdS w2 Q vk d.k) (hQ : ∀ k, Q k → w1.heap.size ≤ k ∧ k < w2.heap.size) (hb : Bl w2 w6)
    (hown : wz.ownsRow w.heap.size 25 4 v' (ents.length + 1) (ndV ents ++ [.string ⟨d.n.toArray⟩, va, .string ⟨d.x.toArray⟩, vk])) (hg : Grew w6 wz v v') :
    ∃ P' ents', NdO wz w.heap.size P' v' (x ++ [d]) ents' ∧ (∀ k, P' k → w.heap.size ≤ k ∧ k < wz.heap.size) ∧ w.grownBy wz (some b) ∧ Xr wz b s u := by
  have H2 := H.of_gb hg2 (fun k hk => (hP k hk).1) hbw
  have H3 : NdO w2 w.heap.size (fun k => P k ∨ Q k) v x ents := H2.mono (fun k h => Or.inl h) (fun k e hpq => by
    rcases hpq with h | h
    · exact H2.low k e h
    · have := (H.lt k e).2; have := (hQ k h).1; omega)
  have hs2 := hg2.size
  have hs6 := Below.size hb
  have hs1 := hg1.size
  obtain ⟨h1, h2⟩ := jt_more d H3 (fun k hk => by
    rcases hk with h | h
    · exact Nat.lt_of_lt_of_le (hP k h).2 hs2
    · exact (hQ k h).2) (Nat.le_trans hs1 hs2) hb ((ha.still (Still.of_bl hb)).mono (fun k h => Or.inr h)) ((hk.of_bl hb).mono (fun k h => Or.inr h)) hown hg
  have hsz := Below.size h2
  refine ⟨_, _, h1, fun k hk => ?_, gb_below (gb_trans hg1 hg2) h2, hR.below h2 hbw⟩
  rcases hk with h | h
  · exact ⟨(hP k h).1, by have := (hP k h).2; omega⟩
  · exact ⟨by have := (hQ k h).1; omega, by have := (hQ k h).2; omega⟩
/-- A text has been put behind kids. -/
theorem ki_text {w w1 w2 wz : World} {b : Nat} {s u : List UInt8} {P : Nat → Prop} {v' : Value} {x : List Nd} {ents' : List Nent} (hbw : b < w.heap.size) (hP : ∀ k, P k → w.heap.size ≤ k ∧ k < w1.heap.size) (hg1 : w.grownBy w1 (some b)) (hg2 : w1.grownBy w2 (some b)) (hR : Xr w2 b s u)
    (_hN : NdO wz w.heap.size P v' x ents') (hb : Below w.heap.size w2 wz) :
    (∀ k, P k → w.heap.size ≤ k ∧ k < wz.heap.size) ∧ w.grownBy wz (some b) ∧ Xr wz b s u :=
  ⟨fun k h => ⟨(hP k h).1, Nat.lt_of_lt_of_le (hP k h).2 (Nat.le_trans hg2.size (Below.size hb))⟩, gb_below (gb_trans hg1 hg2) hb, hR.below hb hbw⟩
theorem pt_xlen (l : List Nd) (s : List UInt8) (B : Nat) (h : ∀ c ∈ l, c.x.length ≤ B) : ∀ c ∈ addT l s, c.x.length ≤ B + s.length := by
  intro c hc
  unfold addT at hc
  split at hc
  · have := h c hc; omega
  · rcases List.eq_nil_or_concat l with rfl | ⟨o, d, rfl⟩
    · simp [pt] at hc; subst hc; simp [Nd.x]
    · rw [List.concat_eq_append] at *
      have ho : ∀ c ∈ o, c.x.length ≤ B := fun c hc => h c (by simp [hc])
      have hd : d.x.length ≤ B := h d (by simp)
      cases d with
      | mk n a y k =>
        cases n with
        | nil =>
          have e : pt (o ++ [.mk [] a y k]) (.mk [] [] s []) = o ++ [.mk [] a (y ++ s) k] := by unfold pt; simp [Nd.n, Nd.x]
          rw [e] at hc
          rcases List.mem_append.1 hc with h1 | h1
          · have := ho c h1; omega
          · rw [List.mem_singleton] at h1; subst h1; simp only [Nd.x, List.length_append] at *; omega
        | cons m n =>
          have e : pt (o ++ [.mk (m :: n) a y k]) (.mk [] [] s []) = o ++ [.mk (m :: n) a y k] ++ [.mk [] [] s []] := by unfold pt; simp
          rw [e] at hc
          rcases List.mem_append.1 hc with h1 | h1
          · have := h c h1; omega
          · rw [List.mem_singleton] at h1; subst h1; simp [Nd.x]
theorem addT_len (l : List Nd) (s : List UInt8) : (addT l s).length ≤ l.length + 1 := by
  unfold addT
  split
  · omega
  · unfold pt
    rcases List.eq_nil_or_concat l with rfl | ⟨o, d, rfl⟩
    · simp
    · rw [List.concat_eq_append]
      cases d with
      | mk n a y k => cases n <;> simp [Nd.n, Nd.x]
theorem toS_len2 {p t v u : List UInt8} (h : toS p t = some (v, u)) (hp : 0 < p.length) : v.length + u.length ≤ t.length ∧ u.length < t.length := by
  obtain ⟨h1, h2⟩ := toS_some h
  have := cutS_len p hp _ _ h1
  rw [h2, List.length_take]
  omega

theorem el_x {k deep : Nat} {t u : List UInt8} {d : Nd} (h : elF k deep t = .ok (d, u)) : d.x = [] ∧ u.length < t.length := by
  obtain ⟨h1, h2, _, h4⟩ := (xm_right k).1 _ _ _ _ h
  cases d with
  | mk n a x kk =>
    have h5 := (nxE_el (cxN_mk h2).1 h1).1
    simp only [cntN] at h4
    exact ⟨h5, by omega⟩
theorem pl_len {t : List UInt8} (h : pre [60] t = false) (h2 : t.dropWhile (· != 60) ≠ []) : (t.dropWhile (· != 60)).length < t.length ∧ (t.takeWhile (· != 60)).length + (t.dropWhile (· != 60)).length = t.length := by
  have e := congrArg List.length (List.takeWhile_append_dropWhile (p := (· != (60 : UInt8))) (l := t))
  rw [List.length_append] at e
  refine ⟨?_, e⟩
  cases t with
  | nil => exact absurd rfl h2
  | cons c r =>
    have hc : c ≠ 60 := by rintro rfl; exact absurd h (by simp [pre, List.isPrefixOf])
    have e2 : ((c :: r).takeWhile (· != 60)) = c :: r.takeWhile (· != 60) := by rw [List.takeWhile_cons, if_pos (by simpa using hc)]
    rw [e2, List.length_cons] at e
    omega

set_option maxRecDepth 100000 in
set_option maxHeartbeats 8000000 in
theorem kidsX_c (b : Nat) (s : List UInt8) (k0 deep : Nat) (t : List UInt8) (w : World) (HEL : ∀ j < k0, ElC b s j) (hk0 : 2 * t.length + 2 ≤ k0) (hdp : deep ≤ 8) (hR : Xr w b s t) (hs : s.length ≤ 1000000) (hE : ES w) (hbE : 1 < b) (hM : ML w) (hbM : 0 < b) :
    Calls Tryz.prog 64 #[.pointer (some ⟨b, 0, none⟩), .int .i64 (deep : Int)] w (KiEnd w b s (kiF k0 deep t [])) := by
  obtain ⟨i0, hi, hz0, hz1, hz2⟩ := info_parts Tryz.infoNod
  have hbw := hR.rk.lt
  have HL0 := Lib.hid HEL
  clear HEL
  go_enter Tryz.func64, Tryz.ntmps64
  go_wp2
  go_loopw [5] (fun vo wr => ∃ (t' : List UInt8) (out : List Nd) (P : Nat → Prop) (ents : List Nent) (j : Nat), Hid (kiF k0 deep t [] = kiF (j + 1) deep t' out) ∧ 2 * t'.length + 2 ≤ j + 1 ∧ j < k0 ∧ NdO wr w.heap.size P vo out ents ∧ Hid (∀ k, P k → w.heap.size ≤ k ∧ k < wr.heap.size) ∧ Xr wr b s t' ∧ w.grownBy wr (some b) ∧ out.length + t'.length ≤ s.length ∧ Hid (∀ c ∈ out, c.x.length + 4 * t'.length ≤ 4 * s.length)) (fun _ wr => s.length - atOf b wr)
  case atStart => exact ⟨t, [], fun _ => False, [], k0 - 1, Lib.hid (by rw [show k0 - 1 + 1 = k0 by omega]), by omega, by omega, NdO.nil _ _ _, Lib.hid (fun k h => h.elim), hR, gb_refl _ _, by have := hR.len; simpa using this, Lib.hid (fun c h => by cases h)⟩
  case round =>
    obtain ⟨t', out, P, ents, j, HA, hj, hjk, hO, HP, hRr, hg, hol, HX⟩ := hrel
    have hmeas := hRr.meas
    have hlt' := hRr.len
    obtain ⟨K, hK⟩ : ∃ K, K = s.length - t'.length := ⟨_, rfl⟩
    have HK := Lib.hid hK
    have hEr := hE.of_gb hg hbE
    have hMr := hM.of_gb hg hbM
    have B1 := Lib.hid (fun W h => beginsX_c [60, 47] b s t' W h (by omega))
    obtain ⟨ao, co, hv, hoc⟩ := own_shp hO.row
    rw [hO.len] at hv hoc
    subst hv
    have HO := Lib.hid hO
    have HEL := Lib.hid hO.len
    clear hO
    cases h1 : pre [60, 47] t' with
    | true =>
      rw [h1] at B1
      have hp2 := pre_len h1
      simp only [List.length_cons, List.length_nil] at hp2
      have HR := Lib.hid (ki_close (k := j) (deep := deep) (out := out) h1)
      have hkl : K + 2 ≤ s.length := by omega
      have HP2 := Lib.hid hp2
      clear h1 hK
      go_wp2_with (go_at_call 63; (with_reducible refine (B1.out _ hRr).mono ?_); rintro e w1 ⟨rfl, hq1⟩; have hR1 := hRr.of_bl hq1.bl; obtain ⟨c0, c1, f0, f1⟩ := hR1.at_ HK.out)
      go_ret
      have hg2 : wr.grownBy (w1.setCell ⟨b, 1, none⟩ (.int .i64 ((K : Int) + 2))) (some b) := gb_set (gb_qt hq1) _ _
      refine ⟨gb_trans hg hg2, ?_⟩
      rw [HA.out, HR.out]
      have hN := (HO.out.of_gb hg2 (fun k hk => (HP.out k hk).1) hbw)
      refine ⟨_, rfl, hR1.adv HP2.out (by rw [← HK.out]; omega), _, hN.nds, ?_⟩
      intro k hk
      rcases hk with h | h
      · exact ⟨(HP.out k h).1, Nat.lt_of_lt_of_le (HP.out k h).2 hg2.size⟩
      · exact hN.lt k h
    | false =>
      rw [h1] at B1
      have B2 := Lib.hid (fun W h => beginsX_c [60, 33, 91, 67, 68, 65, 84, 65, 91] b s t' W h (by omega))
      cases h2 : pre [60, 33, 91, 67, 68, 65, 84, 65, 91] t' with
      | true =>
        rw [h2] at B2
        have hp9 := pre_len h2
        simp only [List.length_cons, List.length_nil] at hp9
        have hkl : K + 9 ≤ s.length := by omega
        have HP9 := Lib.hid hp9
        cases h3 : toS [93, 93, 62] (t'.drop 9) with
        | none =>
          have HR := Lib.hid (ki_cd_no (k := j) (deep := deep) (out := out) h1 h2 h3)
          have TC := Lib.hid (fun W h hm => toX_no [93, 93, 62] (by simp) b s (t'.drop 9) W h (by omega) hm h3)
          clear h1 h2 h3 hK
          go_wp2_with (first | (go_at_call 63; (with_reducible refine (B1.out _ hRr).mono ?_); rintro e w1 ⟨rfl, hq1⟩; have hR1 := hRr.of_bl hq1.bl) | (go_at_call 63; (with_reducible refine (B2.out _ hR1).mono ?_); rintro e w2 ⟨rfl, hq2⟩; have hR2 := hR1.of_bl hq2.bl; obtain ⟨c0, c1, f0, f1⟩ := hR2.at_ HK.out) | (go_at_call 79; (with_reducible refine (TC.out _ (hR2.adv HP9.out (by rw [← HK.out]; omega)) (((hMr.of_bl hq1.bl).of_bl hq2.bl).of_gb (gb_set (gb_refl _ _) _ _) hbM)).mono ?_); rintro e w3 ⟨rfl, hq3⟩))
          refine ⟨rfl, gb_trans hg (gb_trans (gb_set (gb_trans (gb_qt hq1) (gb_qt hq2)) _ _) (gb_qt hq3)), ?_⟩
          rw [HA.out, HR.out]
        | some vu =>
          obtain ⟨v, u⟩ := vu
          have HR := Lib.hid (ki_cd (k := j) (deep := deep) (out := out) h1 h2 h3)
          have TC := Lib.hid (fun W h hm => toX_yes [93, 93, 62] (by simp) b s (t'.drop 9) v u W h (by omega) hm h3)
          obtain ⟨hvl, hul⟩ := toS_len2 h3 (by simp)
          rw [List.length_drop] at hvl hul
          have XC := Lib.hid (fun W vo (hN : NdO W w.heap.size P vo out ents) (hPW : ∀ k, P k → k < W.heap.size) (hbs : w.heap.size ≤ W.heap.size) => textX_c w.heap.size P out ents vo v W hN hPW hbs (by omega) (by omega) (fun c hc => by have := HX.out c hc; omega))
          have HV := Lib.hid (pt_xlen out v (4 * s.length - 4 * t'.length) (fun c hc => by have := HX.out c hc; omega))
          have hal := addT_len out v
          clear h1 h2 h3 hK
          go_wp2_with (first | (go_at_call 63; (with_reducible refine (B1.out _ hRr).mono ?_); rintro e w1 ⟨rfl, hq1⟩; have hR1 := hRr.of_bl hq1.bl) | (go_at_call 63; (with_reducible refine (B2.out _ hR1).mono ?_); rintro e w2 ⟨rfl, hq2⟩; have hR2 := hR1.of_bl hq2.bl; obtain ⟨c0, c1, f0, f1⟩ := hR2.at_ HK.out) | (go_at_call 79; (with_reducible refine (TC.out _ (hR2.adv HP9.out (by rw [← HK.out]; omega)) (((hMr.of_bl hq1.bl).of_bl hq2.bl).of_gb (gb_set (gb_refl _ _) _ _) hbM)).mono ?_); rintro e w3 ⟨rfl, hR3, hg3⟩; have hgr3 := gb_trans (gb_set (b := b) (gb_trans (gb_qt hq1) (gb_qt hq2)) 1 (.int .i64 ((K : Int) + 9))) hg3; have hN3 := HO.out.of_gb hgr3 (fun k hk => (HP.out k hk).1) hbw) | (go_at_call 83; (with_reducible refine (XC.out _ _ hN3 (fun k hk => Nat.lt_of_lt_of_le (HP.out k hk).2 hgr3.size) (Nat.le_trans hg.size hgr3.size)).mono ?_); rintro e w4 ⟨v4, ents4, rfl, hN4, hb4⟩))
          obtain ⟨y1, y2, y3⟩ := ki_text hbw HP.out hg hgr3 hR3 hN4 hb4
          go_roundw
          case rel => exact ⟨u, _, P, ents4, j - 1, Lib.hid (by rw [HA.out, HR.out, show j - 1 + 1 = j by omega]), by omega, by omega, hN4, Lib.hid y1, y3, y2, by omega, Lib.hid (fun c hc => by have := HV.out c hc; omega)⟩
          case measure => rw [hmeas, y3.meas]; omega
      | false =>
        rw [h2] at B2
        have AC := Lib.hid (fun W h hm => asideX_c b s t' W h (by omega) hm hbM)
        cases h3 : asX t' with
        | error n =>
          rw [h3] at AC
          have HR := Lib.hid (ki_as_err (k := j) (deep := deep) (out := out) h1 h2 h3)
          clear h1 h2 h3 hK
          go_wp2_with (first | (go_at_call 63; (with_reducible refine (B1.out _ hRr).mono ?_); rintro e w1 ⟨rfl, hq1⟩; have hR1 := hRr.of_bl hq1.bl) | (go_at_call 63; (with_reducible refine (B2.out _ hR1).mono ?_); rintro e w2 ⟨rfl, hq2⟩; have hR2 := hR1.of_bl hq2.bl) | (go_at_call 59; (with_reducible refine (AC.out _ hR2 ((hMr.of_bl hq1.bl).of_bl hq2.bl)).mono ?_); rintro e w3 ⟨hg3, rfl⟩))
          refine ⟨rfl, gb_trans hg (gb_trans (gb_trans (gb_qt hq1) (gb_qt hq2)) hg3), ?_⟩
          rw [HA.out, HR.out]
        | ok o =>
          rw [h3] at AC
          cases o with
          | some u =>
            have HR := Lib.hid (ki_as (k := j) (deep := deep) (out := out) h1 h2 h3)
            have hul := asX_len h3
            clear h1 h2 h3 hK
            go_wp2_with (first | (go_at_call 63; (with_reducible refine (B1.out _ hRr).mono ?_); rintro e w1 ⟨rfl, hq1⟩; have hR1 := hRr.of_bl hq1.bl) | (go_at_call 63; (with_reducible refine (B2.out _ hR1).mono ?_); rintro e w2 ⟨rfl, hq2⟩; have hR2 := hR1.of_bl hq2.bl) | (go_at_call 59; (with_reducible refine (AC.out _ hR2 ((hMr.of_bl hq1.bl).of_bl hq2.bl)).mono ?_); rintro e w3 ⟨hg3, rfl, hR3⟩))
            have hgr3 := gb_trans (gb_trans (gb_qt hq1) (gb_qt hq2)) hg3
            have hN3 := HO.out.of_gb hgr3 (fun k hk => (HP.out k hk).1) hbw
            go_roundw
            case rel => exact ⟨u, out, P, ents, j - 1, Lib.hid (by rw [HA.out, HR.out, show j - 1 + 1 = j by omega]), by omega, by omega, hN3, Lib.hid (fun k hk => ⟨(HP.out k hk).1, Nat.lt_of_lt_of_le (HP.out k hk).2 hgr3.size⟩), hR3, gb_trans hg hgr3, by omega, Lib.hid (fun c hc => by have := HX.out c hc; omega)⟩
            case measure => have h9 := hR3.meas; simp only [Option.getD_some] at h9; rw [hmeas, h9]; exact hul
          | none =>
            have B4 := Lib.hid (fun W h => beginsX_c [60] b s t' W h (by omega))
            cases h4 : pre [60] t' with
            | true =>
              rw [h4] at B4
              have EC := Lib.hid (fun W h he hm => (show Calls Tryz.prog 36 #[.pointer (some ⟨b, 0, none⟩), .int .i64 ((deep : Int) + 1)] W (ElEnd W b s (elF j (deep + 1) t')) from HL0.out j hjk (deep + 1) t' W (by omega) (by omega) h he hm))
              cases h5 : elF j (deep + 1) t' with
              | error n =>
                rw [h5] at EC
                have HR := Lib.hid (ki_el_err (k := j) (deep := deep) (out := out) h1 h2 h3 h4 h5)
                clear h1 h2 h3 h4 h5 hK
                go_wp2_with (first | (go_at_call 63; (with_reducible refine (B1.out _ hRr).mono ?_); rintro e w1 ⟨rfl, hq1⟩; have hR1 := hRr.of_bl hq1.bl) | (go_at_call 63; (with_reducible refine (B2.out _ hR1).mono ?_); rintro e w2 ⟨rfl, hq2⟩; have hR2 := hR1.of_bl hq2.bl) | (go_at_call 59; (with_reducible refine (AC.out _ hR2 ((hMr.of_bl hq1.bl).of_bl hq2.bl)).mono ?_); rintro e w3 ⟨hg3, rfl, hR3⟩) | (go_at_call 63; (with_reducible refine (B4.out _ hR3).mono ?_); rintro e w4 ⟨rfl, hq4⟩; have hR4 := hR3.of_bl hq4.bl; have hgr4 := gb_trans (gb_trans (gb_trans (gb_qt hq1) (gb_qt hq2)) hg3) (gb_qt hq4)) | (go_at_call 36; (refine (EC.out _ hR4 (hEr.of_gb hgr4 hbE) (hMr.of_gb hgr4 hbM)).mono ?_); rintro e w5 ⟨hg5, rfl⟩))
                refine ⟨rfl, gb_trans hg (gb_trans hgr4 hg5), ?_⟩
                rw [HA.out, HR.out]
              | ok du =>
                obtain ⟨d, u⟩ := du
                rw [h5] at EC
                have HR := Lib.hid (ki_el (k := j) (deep := deep) (out := out) h1 h2 h3 h4 h5)
                obtain ⟨hdx0, hul⟩ := el_x h5
                have hdx := Lib.hid hdx0
                clear hdx0
                clear h1 h2 h3 h4 h5 hK
                go_wp2_with (first | (go_at_call 63; (with_reducible refine (B1.out _ hRr).mono ?_); rintro e w1 ⟨rfl, hq1⟩; have hR1 := hRr.of_bl hq1.bl) | (go_at_call 63; (with_reducible refine (B2.out _ hR1).mono ?_); rintro e w2 ⟨rfl, hq2⟩; have hR2 := hR1.of_bl hq2.bl) | (go_at_call 59; (with_reducible refine (AC.out _ hR2 ((hMr.of_bl hq1.bl).of_bl hq2.bl)).mono ?_); rintro e w3 ⟨hg3, rfl, hR3⟩) | (go_at_call 63; (with_reducible refine (B4.out _ hR3).mono ?_); rintro e w4 ⟨rfl, hq4⟩; have hR4 := hR3.of_bl hq4.bl; have hgr4 := gb_trans (gb_trans (gb_trans (gb_qt hq1) (gb_qt hq2)) hg3) (gb_qt hq4)) | (go_at_call 36; (refine (EC.out _ hR4 (hEr.of_gb hgr4 hbE) (hMr.of_gb hgr4 hbM)).mono ?_); rintro e w5 ⟨hg5, va, vk, rfl, hR5, Q, hAt, hNk, hQ⟩) | (at_builtin; refine Hid.out ?_))
                have hN4 := HO.out.of_gb hgr4 (fun k hk => (HP.out k hk).1) hbw
                have hN5 := hN4.of_gb hg5 (fun k hk => (HP.out k hk).1) hbw
                obtain ⟨a1, c1, rfl, -⟩ := id hAt
                obtain ⟨a2, c2, rfl, -⟩ := id hNk
                have hs4 := (gb_trans hg hgr4).size
                have hs5 := hg5.size
                refine Lib.hid ?_
                refine wpList_append_gr _ rfl _ _ 23 rfl w.heap.size 25 i0 (.agg #[.string ⟨#[]⟩, .slice none 0 0, .string ⟨#[]⟩, .slice none 0 0]) 4 80 Tryz.underlying23 hi hz0 hz1 hz2 rfl (by decide) (.slice ao out.length co) ents.length (ndV ents) rfl (own_bl hN5.row ((Bl.refl _).alloc _)) ⟨w5.heap.size, 0, none⟩ 1 1 [.string ⟨d.n.toArray⟩, .slice a1 d.a.length c1, .string ⟨d.x.toArray⟩, .slice a2 d.k.length c2] rfl rfl (new_cells w5 #[.string ⟨d.n.toArray⟩, .slice a1 d.a.length c1, .string ⟨d.x.toArray⟩, .slice a2 d.k.length c2] _) (by simp [Value.oneCell']) (by decide) (by have := HEL.out; unfold maxLen; omega) (by have := HEL.out; omega) (by simp; omega) ?_
                intro v' wz hown hgg
                obtain ⟨P', ents', hN', hP', hg', hR'⟩ := ki_more d hbw hN4 (fun k hk => ⟨(HP.out k hk).1, Nat.lt_of_lt_of_le (HP.out k hk).2 hgr4.size⟩) (gb_trans hg hgr4) hg5 hR5 hAt hNk hQ ((Bl.refl _).alloc _) hown hgg
                clear hown hgg
                go_wp2
                go_roundw
                case rel => exact ⟨u, _, P', ents', j - 1, Lib.hid (by rw [HA.out, HR.out, show j - 1 + 1 = j by omega]), by omega, by omega, hN', Lib.hid hP', hR', hg', by simp; omega, Lib.hid (fun c hc => by
                  rcases List.mem_append.1 hc with h | h
                  · have := HX.out c h; omega
                  · rw [List.mem_singleton] at h; subst h; rw [hdx.out]; simp; omega)⟩
                case measure => rw [hmeas, hR'.meas]; exact hul
            | false =>
              rw [h4] at B4
              by_cases h6 : t'.dropWhile (· != 60) = []
              · have HR := Lib.hid (ki_pl_end (k := j) (deep := deep) (out := out) h1 h2 h3 h4 h6)
                have PC := Lib.hid (fun W h he => plain_no b s t' W h (by omega) he h6)
                clear h1 h2 h3 h4 h6 hK
                go_wp2_with (first | (go_at_call 63; (with_reducible refine (B1.out _ hRr).mono ?_); rintro e w1 ⟨rfl, hq1⟩; have hR1 := hRr.of_bl hq1.bl) | (go_at_call 63; (with_reducible refine (B2.out _ hR1).mono ?_); rintro e w2 ⟨rfl, hq2⟩; have hR2 := hR1.of_bl hq2.bl) | (go_at_call 59; (with_reducible refine (AC.out _ hR2 ((hMr.of_bl hq1.bl).of_bl hq2.bl)).mono ?_); rintro e w3 ⟨hg3, rfl, hR3⟩) | (go_at_call 63; (with_reducible refine (B4.out _ hR3).mono ?_); rintro e w4 ⟨rfl, hq4⟩; have hR4 := hR3.of_bl hq4.bl; have hgr4 := gb_trans (gb_trans (gb_trans (gb_qt hq1) (gb_qt hq2)) hg3) (gb_qt hq4)) | (go_at_call 84; (with_reducible refine (PC.out _ hR4 (hEr.of_gb hgr4 hbE)).mono ?_); rintro e w5 ⟨rfl, hb5⟩))
                refine ⟨rfl, gb_trans hg (gb_trans hgr4 (gb_bl hb5)), ?_⟩
                rw [HA.out, HR.out]
              · have PC := Lib.hid (fun W h => plain_yes b s t' W h (by omega) h6)
                obtain ⟨hrl, htl⟩ := pl_len h4 h6
                cases h5 : (Tk (t'.takeWhile (· != 60))).2 with
                | false =>
                  have HR := Lib.hid (ki_pl_no (k := j) (deep := deep) (out := out) h1 h2 h3 h4 h5)
                  have KC := Lib.hid (fun W h => told_no (t'.takeWhile (· != 60)) (by omega) W h h5)
                  clear h1 h2 h3 h4 h5 h6 hK
                  go_wp2_with (first | (go_at_call 63; (with_reducible refine (B1.out _ hRr).mono ?_); rintro e w1 ⟨rfl, hq1⟩; have hR1 := hRr.of_bl hq1.bl) | (go_at_call 63; (with_reducible refine (B2.out _ hR1).mono ?_); rintro e w2 ⟨rfl, hq2⟩; have hR2 := hR1.of_bl hq2.bl) | (go_at_call 59; (with_reducible refine (AC.out _ hR2 ((hMr.of_bl hq1.bl).of_bl hq2.bl)).mono ?_); rintro e w3 ⟨hg3, rfl, hR3⟩) | (go_at_call 63; (with_reducible refine (B4.out _ hR3).mono ?_); rintro e w4 ⟨rfl, hq4⟩; have hR4 := hR3.of_bl hq4.bl; have hgr4 := gb_trans (gb_trans (gb_trans (gb_qt hq1) (gb_qt hq2)) hg3) (gb_qt hq4)) | (go_at_call 84; (with_reducible refine (PC.out _ hR4).mono ?_); rintro e w5 ⟨rfl, hR5, hg5⟩) | (go_at_call 81; (with_reducible refine (KC.out _ ((hEr.of_gb hgr4 hbE).of_gb hg5 hbE)).mono ?_); rintro e w6 ⟨rfl, hb6⟩))
                  refine ⟨rfl, gb_trans hg (gb_trans (gb_trans hgr4 hg5) (gb_bl hb6)), ?_⟩
                  rw [HA.out, HR.out]
                | true =>
                  have HR := Lib.hid (ki_pl (k := j) (deep := deep) (out := out) h1 h2 h3 h4 h5 h6)
                  have KC := Lib.hid (fun W h => told_yes (t'.takeWhile (· != 60)) (by omega) W h h5)
                  have hyl := Tk_len (t'.takeWhile (· != 60)).length (t'.takeWhile (· != 60)) (Nat.le_refl _)
                  obtain ⟨y, hy⟩ : ∃ y, y = (Tk (t'.takeWhile (· != 60))).1 := ⟨_, rfl⟩
                  obtain ⟨r', hr'⟩ : ∃ r', r' = t'.dropWhile (· != 60) := ⟨_, rfl⟩
                  rw [← hy, ← hr'] at HR
                  rw [← hy] at KC hyl
                  rw [← hr'] at PC hrl htl
                  have XC := Lib.hid (fun W vo (hN : NdO W w.heap.size P vo out ents) (hPW : ∀ k, P k → k < W.heap.size) (hbs : w.heap.size ≤ W.heap.size) => textX_c w.heap.size P out ents vo y W hN hPW hbs (by omega) (by omega) (fun c hc => by have := HX.out c hc; omega))
                  have HV := Lib.hid (pt_xlen out y (4 * s.length - 4 * t'.length) (fun c hc => by have := HX.out c hc; omega))
                  have hal := addT_len out y
                  clear h1 h2 h3 h4 h5 h6 hK hy hr'
                  go_wp2_with (first | (go_at_call 63; (with_reducible refine (B1.out _ hRr).mono ?_); rintro e w1 ⟨rfl, hq1⟩; have hR1 := hRr.of_bl hq1.bl) | (go_at_call 63; (with_reducible refine (B2.out _ hR1).mono ?_); rintro e w2 ⟨rfl, hq2⟩; have hR2 := hR1.of_bl hq2.bl) | (go_at_call 59; (with_reducible refine (AC.out _ hR2 ((hMr.of_bl hq1.bl).of_bl hq2.bl)).mono ?_); rintro e w3 ⟨hg3, rfl, hR3⟩) | (go_at_call 63; (with_reducible refine (B4.out _ hR3).mono ?_); rintro e w4 ⟨rfl, hq4⟩; have hR4 := hR3.of_bl hq4.bl; have hgr4 := gb_trans (gb_trans (gb_trans (gb_qt hq1) (gb_qt hq2)) hg3) (gb_qt hq4)) | (go_at_call 84; (with_reducible refine (PC.out _ hR4).mono ?_); rintro e w5 ⟨rfl, hR5, hg5⟩) | (go_at_call 81; (with_reducible refine (KC.out _ ((hEr.of_gb hgr4 hbE).of_gb hg5 hbE)).mono ?_); rintro e w6 ⟨rfl, hb6⟩; have hR6 := hR5.of_bl hb6; have hgr6 := gb_trans (gb_trans hgr4 hg5) (gb_bl (b := some b) hb6); have hN6 := HO.out.of_gb hgr6 (fun k hk => (HP.out k hk).1) hbw) | (go_at_call 83; (with_reducible refine (XC.out _ _ hN6 (fun k hk => Nat.lt_of_lt_of_le (HP.out k hk).2 hgr6.size) (Nat.le_trans hg.size hgr6.size)).mono ?_); rintro e w7 ⟨v7, ents7, rfl, hN7, hb7⟩))
                  obtain ⟨y1, y2, y3⟩ := ki_text hbw HP.out hg hgr6 hR6 hN7 hb7
                  go_roundw
                  case rel => exact ⟨r', _, P, ents7, j - 1, Lib.hid (by rw [HA.out, HR.out, show j - 1 + 1 = j by omega]), by omega, by omega, hN7, Lib.hid y1, y3, y2, by omega, Lib.hid (fun c hc => by have := HV.out c hc; omega)⟩
                  case measure => rw [hmeas, y3.meas]; exact hrl
end Go.Proofs.YtkacjnifhmgeiaaGreatDoor

/- Documents: Title; aside, misc, title, told. -/
import Derived.Test.YtkacjnifhmgeiaaGreatDoorXmlB
import Derived.Test.YtkacjnifhmgeiaaGreatDoorGrpH
namespace Go.Proofs.YtkacjnifhmgeiaaGreatDoor
open Go.RowKit

theorem Xr.adv {w : World} {b : Nat} {s t : List UInt8} (h : Xr w b s t) {m : Nat} (hm : m ≤ t.length) {n : Int} (hn : n = ((s.length - t.length + m : Nat) : Int)) : Xr (w.setCell ⟨b, 1, none⟩ (.int .i64 n)) b s (t.drop m) :=
  ⟨h.rk.seti (by rw [hn, drop_len_sub h.sf hm]), (List.drop_suffix _ _).trans h.sf⟩
theorem Xr.at_ {w : World} {b : Nat} {s t : List UInt8} (h : Xr w b s t) {k : Nat} (hk : k = s.length - t.length) : w.cell? ⟨b, 0, none⟩ = some (.string ⟨s.toArray⟩) ∧ w.cell? ⟨b, 1, none⟩ = some (.int .i64 (k : Int)) ∧ w.frozen? ⟨b, 0, none⟩ = false ∧ w.frozen? ⟨b, 1, none⟩ = false := by
  subst hk; exact h.rk.cells
theorem toS_of {p t u : List UInt8} (h : cutS p t = some u) : ∃ v, toS p t = some (v, u) := by
  unfold toS; rw [h]; exact ⟨_, rfl⟩
theorem toS_of_none {p t : List UInt8} (h : cutS p t = none) : toS p t = none := by
  unfold toS; rw [h]; rfl

/-- How a step of the reader ends that hands back a value by what it finds. -/
def XE {α : Type} (w0 : World) (b : Nat) (s : List UInt8) (R : Except Int α) (val : α → Value) (rest : α → List UInt8) (e : Ending) (w' : World) : Prop :=
  w0.grownBy w' (some b) ∧ match R with
    | .error n => e = .panicked (ERN n)
    | .ok a => e = .returned (val a) ∧ Xr w' b s (rest a)

set_option maxHeartbeats 1000000 in
theorem aside_com (b : Nat) (s t : List UInt8) (w : World) (hR : Xr w b s t) (hs : s.length ≤ 1073741824) (hM : ML w) (hbM : 0 < b) (h1 : pre [60, 33, 45, 45] t = true) :
    Calls Tryz.prog 59 #[.pointer (some ⟨b, 0, none⟩)] w fun e w' => w.grownBy w' (some b) ∧ match cutS [45, 45, 62] (t.drop 4) with
      | none => e = .panicked (ERN 1)
      | some r => e = .returned (.bool true) ∧ Xr w' b s r := by
  have hpl := pre_len h1
  have hl := hR.len
  simp only [List.length_cons, List.length_nil] at hpl
  have BC := Lib.hid (beginsX_c [60, 33, 45, 45] b s t w hR (by omega))
  rw [h1] at BC
  have HR := Lib.hid hR
  obtain ⟨k, hk⟩ : ∃ k, k = s.length - t.length := ⟨_, rfl⟩
  have HK := Lib.hid hk
  have hkl : k + 4 ≤ s.length := by omega
  have HP := Lib.hid hpl
  clear hR h1 hk hpl
  cases hc : cutS [45, 45, 62] (t.drop 4) with
  | none =>
    have TC := Lib.hid (fun W h hm => toX_no [45, 45, 62] (by simp) b s (t.drop 4) W h (by omega) hm (toS_of_none hc))
    clear hc
    go_enter Tryz.func59, Tryz.ntmps59
    go_wp2_with (first | (go_at_call 63; (with_reducible refine BC.out.mono ?_); rintro e w1 ⟨rfl, hq⟩; have hR1 := HR.out.of_bl hq.bl; obtain ⟨c0, c1, f0, f1⟩ := hR1.at_ HK.out) | (go_at_call 79; (with_reducible refine (TC.out _ (hR1.adv HP.out (by rw [← HK.out]; omega)) (((hM.of_bl hq.bl)).of_gb (gb_set (gb_refl _ _) _ _) hbM)).mono ?_); rintro e w2 ⟨rfl, hq2⟩))
    exact ⟨rfl, gb_trans (gb_set (gb_qt hq) _ _) (gb_qt hq2), rfl⟩
  | some r =>
    obtain ⟨v, hv⟩ := toS_of hc
    have TC := Lib.hid (fun W h hm => toX_yes [45, 45, 62] (by simp) b s (t.drop 4) v r W h (by omega) hm hv)
    clear hc hv
    go_enter Tryz.func59, Tryz.ntmps59
    go_wp2_with (first | (go_at_call 63; (with_reducible refine BC.out.mono ?_); rintro e w1 ⟨rfl, hq⟩; have hR1 := HR.out.of_bl hq.bl; obtain ⟨c0, c1, f0, f1⟩ := hR1.at_ HK.out) | (go_at_call 79; (with_reducible refine (TC.out _ (hR1.adv HP.out (by rw [← HK.out]; omega)) (((hM.of_bl hq.bl)).of_gb (gb_set (gb_refl _ _) _ _) hbM)).mono ?_); rintro e w2 ⟨rfl, hR2, hg2⟩))
    go_ret
    exact ⟨gb_trans (gb_set (gb_qt hq) _ _) hg2, rfl, hR2⟩
set_option maxHeartbeats 1000000 in
theorem aside_pi (b : Nat) (s t : List UInt8) (w : World) (hR : Xr w b s t) (hs : s.length ≤ 1073741824) (hM : ML w) (hbM : 0 < b) (h1 : pre [60, 33, 45, 45] t = false) (h2 : pre [60, 63] t = true) :
    Calls Tryz.prog 59 #[.pointer (some ⟨b, 0, none⟩)] w fun e w' => w.grownBy w' (some b) ∧ match cutS [63, 62] (t.drop 2) with
      | none => e = .panicked (ERN 1)
      | some r => e = .returned (.bool true) ∧ Xr w' b s r := by
  have hpl := pre_len h2
  have hl := hR.len
  simp only [List.length_cons, List.length_nil] at hpl
  have BC := Lib.hid (beginsX_c [60, 33, 45, 45] b s t w hR (by omega))
  rw [h1] at BC
  have BD := Lib.hid (fun W h => beginsX_c [60, 63] b s t W h (by omega))
  rw [h2] at BD
  have HR := Lib.hid hR
  obtain ⟨k, hk⟩ : ∃ k, k = s.length - t.length := ⟨_, rfl⟩
  have HK := Lib.hid hk
  have hkl : k + 2 ≤ s.length := by omega
  have HP := Lib.hid hpl
  clear hR h1 h2 hk hpl
  cases hc : cutS [63, 62] (t.drop 2) with
  | none =>
    have TC := Lib.hid (fun W h hm => toX_no [63, 62] (by simp) b s (t.drop 2) W h (by omega) hm (toS_of_none hc))
    clear hc
    go_enter Tryz.func59, Tryz.ntmps59
    go_wp2_with (first | (go_at_call 63; (with_reducible refine BC.out.mono ?_); clear BC; rintro e w1 ⟨rfl, hq⟩; have hR1 := HR.out.of_bl hq.bl) | (go_at_call 63; (with_reducible refine (BD.out _ hR1).mono ?_); rintro e w2 ⟨rfl, hq2⟩; have hR2 := hR1.of_bl hq2.bl; obtain ⟨c0, c1, f0, f1⟩ := hR2.at_ HK.out) | (go_at_call 79; (with_reducible refine (TC.out _ (hR2.adv HP.out (by rw [← HK.out]; omega)) (((hM.of_bl hq.bl).of_bl hq2.bl).of_gb (gb_set (gb_refl _ _) _ _) hbM)).mono ?_); rintro e w3 ⟨rfl, hq3⟩))
    exact ⟨rfl, gb_trans (gb_set (gb_trans (gb_qt hq) (gb_qt hq2)) _ _) (gb_qt hq3), rfl⟩
  | some r =>
    obtain ⟨v, hv⟩ := toS_of hc
    have TC := Lib.hid (fun W h hm => toX_yes [63, 62] (by simp) b s (t.drop 2) v r W h (by omega) hm hv)
    clear hc hv
    go_enter Tryz.func59, Tryz.ntmps59
    go_wp2_with (first | (go_at_call 63; (with_reducible refine BC.out.mono ?_); clear BC; rintro e w1 ⟨rfl, hq⟩; have hR1 := HR.out.of_bl hq.bl) | (go_at_call 63; (with_reducible refine (BD.out _ hR1).mono ?_); rintro e w2 ⟨rfl, hq2⟩; have hR2 := hR1.of_bl hq2.bl; obtain ⟨c0, c1, f0, f1⟩ := hR2.at_ HK.out) | (go_at_call 79; (with_reducible refine (TC.out _ (hR2.adv HP.out (by rw [← HK.out]; omega)) (((hM.of_bl hq.bl).of_bl hq2.bl).of_gb (gb_set (gb_refl _ _) _ _) hbM)).mono ?_); rintro e w3 ⟨rfl, hR3, hg3⟩))
    go_ret
    exact ⟨gb_trans (gb_set (gb_trans (gb_qt hq) (gb_qt hq2)) _ _) hg3, rfl, hR3⟩
set_option maxHeartbeats 1000000 in
theorem aside_no (b : Nat) (s t : List UInt8) (w : World) (hR : Xr w b s t) (hs : s.length ≤ 1073741824) (h1 : pre [60, 33, 45, 45] t = false) (h2 : pre [60, 63] t = false) :
    Calls Tryz.prog 59 #[.pointer (some ⟨b, 0, none⟩)] w fun e w' => e = .returned (.bool false) ∧ Qt w w' := by
  have BC := Lib.hid (beginsX_c [60, 33, 45, 45] b s t w hR (by omega))
  rw [h1] at BC
  have BD := Lib.hid (fun W h => beginsX_c [60, 63] b s t W h (by omega))
  rw [h2] at BD
  have HR := Lib.hid hR
  clear hR h1 h2
  go_enter Tryz.func59, Tryz.ntmps59
  go_wp2_with (first | (go_at_call 63; (with_reducible refine BC.out.mono ?_); clear BC; rintro e w1 ⟨rfl, hq⟩; have hR1 := HR.out.of_bl hq.bl) | (go_at_call 63; (with_reducible refine (BD.out _ hR1).mono ?_); rintro e w2 ⟨rfl, hq2⟩))
  go_ret
  obtain ⟨n, rfl⟩ := hq
  exact ⟨rfl, by obtain ⟨m, rfl⟩ := hq2; exact ((Qt.refl _).drewN _).drewN _⟩
theorem asideX_c (b : Nat) (s t : List UInt8) (w : World) (hR : Xr w b s t) (hs : s.length ≤ 1073741824) (hM : ML w) (hbM : 0 < b) :
    Calls Tryz.prog 59 #[.pointer (some ⟨b, 0, none⟩)] w (XE w b s (asX t) (fun o => .bool o.isSome) fun o => o.getD t) := by
  by_cases h1 : pre [60, 33, 45, 45] t = true
  · refine (aside_com b s t w hR hs hM hbM h1).mono ?_
    rintro e w' ⟨hg, h⟩
    refine ⟨hg, ?_⟩
    unfold asX
    rw [if_pos (show pre sCom t = true from h1), show sComE = [45, 45, 62] from rfl]
    cases hc : cutS [45, 45, 62] (t.drop 4) with
    | none => rw [hc] at h; exact h
    | some r => rw [hc] at h; exact h
  · have h1' : pre [60, 33, 45, 45] t = false := by simpa using h1
    by_cases h2 : pre [60, 63] t = true
    · refine (aside_pi b s t w hR hs hM hbM h1' h2).mono ?_
      rintro e w' ⟨hg, h⟩
      refine ⟨hg, ?_⟩
      unfold asX
      rw [if_neg (show ¬ pre sCom t = true from h1), if_pos (show pre sPi t = true from h2), show sPiE = [63, 62] from rfl]
      cases hc : cutS [63, 62] (t.drop 2) with
      | none => rw [hc] at h; exact h
      | some r => rw [hc] at h; exact h
    · refine (aside_no b s t w hR hs h1' (by simpa using h2)).mono ?_
      rintro e w' ⟨rfl, hq⟩
      refine ⟨gb_qt hq, ?_⟩
      unfold asX
      rw [if_neg (show ¬ pre sCom t = true from h1), if_neg (show ¬ pre sPi t = true from h2)]
      exact ⟨rfl, hR.of_bl hq.bl⟩

set_option maxHeartbeats 1000000 in
theorem miscX_c (b : Nat) (s t : List UInt8) (w : World) (hR : Xr w b s t) (hs : s.length ≤ 1073741824) (hM : ML w) (hbM : 0 < b) :
    Calls Tryz.prog 35 #[.pointer (some ⟨b, 0, none⟩)] w (XE w b s (miX t) (fun _ => .tuple #[]) fun r => r) := by
  go_enter Tryz.func35, Tryz.ntmps35
  go_wp2
  go_loopw [] (fun wr => ∃ t' : List UInt8, Hid (miX t = miX t') ∧ Xr wr b s t' ∧ w.grownBy wr (some b)) (fun wr => s.length - atOf b wr)
  case atStart => exact ⟨t, Lib.hid rfl, hR, gb_refl _ _⟩
  case round =>
    obtain ⟨t', HA, hRr, hg⟩ := hrel
    have hm := hRr.meas
    have hl := hRr.len
    have hwl := wsX_len t'
    have WC := Lib.hid (whiteX_c b s t' wr hRr (by omega))
    by_cases hlt : (wsX t').length < t'.length
    · have hpos : (0 : Int) < ((t'.length - (wsX t').length : Nat) : Int) := by omega
      have HX := Lib.hid (miX_ws hlt)
      go_wp2_with (go_at_call 58; (with_reducible refine WC.out.mono ?_); rintro e w1 ⟨rfl, hR1, hg1⟩)
      go_roundw
      case rel => exact ⟨_, Lib.hid (HA.out.trans HX.out), hR1, gb_trans hg hg1⟩
      case measure => rw [hm, hR1.meas]; exact hlt
    · have hz : t'.length - (wsX t').length = 0 := by omega
      have hws := miX_as2 t' (by omega)
      rw [hz, hws] at WC
      have AC := Lib.hid (fun W h hm => asideX_c b s t' W h hs hm hbM)
      have HX := Lib.hid (miX_as hlt)
      cases ha : asX t' with
      | error n =>
        rw [ha] at AC HX
        clear ha
        go_wp2_with (first | (go_at_call 58; (with_reducible refine WC.out.mono ?_); rintro e w1 ⟨rfl, hR1, hg1⟩) | (go_at_call 59; (with_reducible refine (AC.out _ hR1 ((hM.of_gb hg hbM).of_gb hg1 hbM)).mono ?_); rintro e w2 ⟨hg2, rfl⟩))
        refine ⟨rfl, gb_trans (gb_trans hg hg1) hg2, ?_⟩
        rw [HA.out, HX.out]
      | ok o =>
        rw [ha] at AC HX
        cases o with
        | none =>
          clear ha
          go_wp2_with (first | (go_at_call 58; (with_reducible refine WC.out.mono ?_); rintro e w1 ⟨rfl, hR1, hg1⟩) | (go_at_call 59; (with_reducible refine (AC.out _ hR1 ((hM.of_gb hg hbM).of_gb hg1 hbM)).mono ?_); rintro e w2 ⟨hg2, rfl, hR2⟩))
          go_end0
          refine ⟨gb_trans (gb_trans hg hg1) hg2, ?_⟩
          rw [HA.out, HX.out]
          exact ⟨rfl, hR2⟩
        | some r =>
          have HL := Lib.hid (asX_len ha)
          clear ha
          go_wp2_with (first | (go_at_call 58; (with_reducible refine WC.out.mono ?_); rintro e w1 ⟨rfl, hR1, hg1⟩) | (go_at_call 59; (with_reducible refine (AC.out _ hR1 ((hM.of_gb hg hbM).of_gb hg1 hbM)).mono ?_); rintro e w2 ⟨hg2, rfl, hR2⟩))
          go_roundw
          case rel => exact ⟨_, Lib.hid (HA.out.trans HX.out), hR2, gb_trans (gb_trans hg hg1) hg2⟩
          case measure => rw [hm]; have h9 := hR2.meas; simp only [Option.getD_some] at h9; rw [h9]; exact HL.out

set_option maxHeartbeats 1000000 in
theorem titleP_c (l : List UInt8) (hl : l.length ≤ 1099511627776) (w : World) : Calls Tryz.prog 53 #[.string ⟨l.toArray⟩] w fun e w' => e = .returned (.bool (isTi l)) ∧ w = w' := by
  go_enter Tryz.func53, Tryz.ntmps53
  go_wp2
  go_loop [6] (fun i => ∃ k : Nat, k ≤ l.length ∧ i = .int .i64 k ∧ Hid (∀ i (h : i < l.length), i < k → tiBy (decide (i = 0)) l[i] = true)) (fun i => l.length - (intOf i).toNat)
  case atStart => exact ⟨0, Nat.zero_le _, rfl, Lib.hid (fun i _ h => by omega)⟩
  case round =>
    obtain ⟨k, hk, rfl, HP⟩ := hrel
    by_cases hlt : k < l.length
    · have TC := Lib.hid (fun W => titleByte_c l[k] (decide (k = 0)) W)
      have hkz : ((k : Int) == 0) = decide (k = 0) := by rw [Bool.eq_iff_iff]; simp
      cases hT : tiBy (decide (k = 0)) l[k]
      · rw [hT] at TC
        have HN := Lib.hid (isTi_no l k hlt hT)
        clear hT
        go_wp2_with (go_at_call 69; (with_reducible refine (TC.out _).mono ?_); rintro e w1 ⟨rfl, rfl⟩)
        go_ret
        exact ⟨by rw [HN.out]; rfl, rfl⟩
      · rw [hT] at TC
        have HT := Lib.hid hT
        clear hT
        go_wp2_with (go_at_call 69; (with_reducible refine (TC.out _).mono ?_); rintro e w1 ⟨rfl, rfl⟩)
        go_round
        case rel =>
          refine ⟨k + 1, by omega, by go_num, Lib.hid (fun i h hi => ?_)⟩
          by_cases e : i = k
          · subst e; exact HT.out
          · exact HP.out i h (by omega)
        case measure => simp [intOf]; omega
    · by_cases h0 : l = []
      · subst h0
        go_wp2
        go_ret
        exact ⟨rfl, rfl⟩
      · have hne : l.isEmpty = false := by cases l <;> simp_all
        have HE := Lib.hid h0
        by_cases h20 : l.length ≤ 20
        · have HN := Lib.hid (isTi_pos l (fun i h => HP.out i h (by omega)) h20 h0)
          have h20' : (l.length : Int) ≤ 20 := by omega
          go_wp2
          go_ret
          exact ⟨by rw [HN.out]; exact ret_bool (by have := HE.out; simp [] <;> omega), rfl⟩
        · have HN := Lib.hid (isTi_long l (Or.inl (by omega)))
          go_wp2
          go_ret
          exact ⟨by rw [HN.out]; exact ret_bool (by have := HE.out; simp [] <;> omega), rfl⟩
theorem titleS_c (l : List UInt8) (hl : l.length ≤ 1099511627776) (w : World) : Calls Tryz.prog 53 #[.string ⟨l.toArray⟩] w fun e w' => e = .returned (.bool (isTi l)) ∧ Qt w w' :=
  (titleP_c l hl w).mono fun _ _ ⟨he, hw⟩ => ⟨he, hw ▸ Qt.refl _⟩
theorem told_yes (l : List UInt8) (hl : l.length ≤ 1099511627776) (w : World) (hE : ES w) (h : (Tk l).2 = true) :
    Calls Tryz.prog 81 #[.string ⟨l.toArray⟩] w fun e w' => e = .returned (.string ⟨(Tk l).1.toArray⟩) ∧ Bl w w' := by
  have TC := Lib.hid (taken_c l hl w hE)
  rw [h] at TC
  clear h
  go_enter Tryz.func81, Tryz.ntmps81
  go_wp2_with (go_at_call 55; (with_reducible refine TC.out.mono ?_); rintro e w1 ⟨rfl, hb⟩)
  go_ret
  exact ⟨rfl, hb⟩
theorem told_no (l : List UInt8) (hl : l.length ≤ 1099511627776) (w : World) (hE : ES w) (h : (Tk l).2 = false) :
    Calls Tryz.prog 81 #[.string ⟨l.toArray⟩] w fun e w' => e = .panicked (ERN 1) ∧ Bl w w' := by
  have TC := Lib.hid (taken_c l hl w hE)
  rw [h] at TC
  clear h
  go_enter Tryz.func81, Tryz.ntmps81
  go_wp2_with (first | (go_at_call 55; (with_reducible refine TC.out.mono ?_); rintro e w1 ⟨rfl, hb⟩) | (go_at_call 37; (with_reducible refine (fail_c 1 _).mono ?_); rintro e w2 ⟨rfl, rfl⟩))
  exact ⟨rfl, rfl, hb⟩

theorem tiS_len2 (t : List UInt8) : (tiS t).1.length ≤ t.length := by have := tiS_len t; omega
theorem tiS_take (t : List UInt8) : t.take (tiS t).1.length = (tiS t).1 := by
  conv => lhs; arg 2; rw [← tiS_app t]
  exact List.take_left
theorem tiS_sfx (t : List UInt8) : (tiS t).2 <:+ t := ⟨_, tiS_app t⟩
set_option maxRecDepth 100000 in
set_option maxHeartbeats 1000000 in
theorem titleX_c (b : Nat) (s t : List UInt8) (w : World) (hR : Xr w b s t) (hs : s.length ≤ 1073741824) :
    Calls Tryz.prog 61 #[.pointer (some ⟨b, 0, none⟩)] w (XE w b s (tiX t) (fun r => .string ⟨r.1.toArray⟩) fun r => r.2) := by
  have hd := sfx_drop hR.sf
  have hl := hR.len
  have hrk := hR.rk
  obtain ⟨c0, c1, f0, f1⟩ := hR.rk.cells
  obtain ⟨k, hk'⟩ : ∃ k, k = s.length - t.length := ⟨_, rfl⟩
  rw [← hk'] at hd c1 hrk
  have htl := tiS_len t
  have HIN := Lib.hid (tiS_in t)
  have HOUT := Lib.hid (tiS_out t)
  have HSF := Lib.hid ((tiS_sfx t).trans hR.sf)
  have HTK := Lib.hid (show (s.drop k).take (tiS t).1.length = (tiS t).1 by rw [hd]; exact tiS_take t)
  have HG := Lib.hid (fun (j : Nat) (hj : j < t.length) => show ∃ h : k + j < s.length, s[k + j] = t[j] by
    refine ⟨by omega, ?_⟩
    have : (s.drop k)[j]'(by rw [hd]; exact hj) = t[j] := by congr 1
    rw [← this, List.getElem_drop])
  have HTI := Lib.hid (show tiX t = if isTi (tiS t).1 then .ok (tiS t) else .error 1 from rfl)
  have hls : s.length - (tiS t).2.length = k + (tiS t).1.length := by omega
  have HLS := Lib.hid hls
  obtain ⟨n, u, hnu⟩ : ∃ n u, tiS t = (n, u) := ⟨_, _, rfl⟩
  rw [hnu] at htl HIN HOUT HSF HTK HTI HLS
  simp only [] at htl HIN HOUT HSF HTK HTI HLS
  have hkn : k + n.length ≤ s.length := by omega
  have hnt : n.length ≤ t.length := by omega
  have HN := Lib.hid (fun W => titleS_c n (by omega) W)
  obtain ⟨m, hm⟩ : ∃ m, m = n.length := ⟨_, rfl⟩
  rw [← hm] at htl HIN HTK HLS hkn hnt
  have HOUT2 := Lib.hid (fun (h : m < t.length) => show tiBy (decide (m = 0)) t[m] = false by subst hm; exact HOUT.out h)
  have hkt : k + t.length = s.length := by omega
  clear hR hd hk' hls hnu hl HOUT hm
  go_enter Tryz.func61, Tryz.ntmps61
  go_wp2
  clear c0 c1 f0 f1
  go_loopw [] (fun wr => ∃ j : Nat, j ≤ m ∧ Xk wr b s (k + j) ∧ w.grownBy wr (some b)) (fun wr => s.length - atOf b wr)
  case atStart => exact ⟨0, Nat.zero_le _, hrk, gb_refl _ _⟩
  case round =>
    obtain ⟨j, hj, hRr, hg⟩ := hrel
    obtain ⟨c0, c1, f0, f1⟩ := hRr.cells
    have hkz : ((k : Int) + (j : Int) == (k : Int)) = decide (j = 0) := by rw [Bool.eq_iff_iff]; simp; omega
    by_cases hlt : j < m
    · obtain ⟨h2, h1⟩ := HIN.out j hlt
      obtain ⟨h3, h4⟩ := HG.out j h2
      have h2' : (k : Int) + (j : Int) < (s.length : Int) := by omega
      have h3' : (0 : Int) ≤ (k : Int) + (j : Int) := by omega
      have h4' : ((k : Int) + (j : Int)).toNat = k + j := by omega
      have TC := Lib.hid (fun m : Nat => titleByte_c s[k + j] (decide (j = 0)) (wr.drewN m))
      rw [h4, h1, ← h4] at TC
      clear h1 h4
      go_wp2_with (go_quiet (first | (rw [hkz]; (with_reducible exact quiet_eq (TC.out _))) | (with_reducible exact quiet_eq (TC.out _))))
      go_roundw
      case rel => exact ⟨j + 1, by omega, (hRr.of_bl ((Bl.refl _).drewN _)).seti (by omega), gb_set (gb_drewN hg _) _ _⟩
      case measure =>
        have hz : ∀ m, atOf b ((wr.drewN m).setCell ⟨b, 1, none⟩ (.int .i64 ((k : Int) + (j : Int) + 1))) = k + j + 1 := fun m => ((hRr.of_bl ((Bl.refl _).drewN m)).seti (by omega)).at_eq
        rw [hRr.at_eq, hz]; omega
    · obtain rfl : j = m := by omega
      by_cases h2 : j < t.length
      · have h1 := HOUT2.out h2
        obtain ⟨h3, h4⟩ := HG.out _ h2
        have h2' : (k : Int) + (j : Int) < (s.length : Int) := by omega
        have h3' : (0 : Int) ≤ (k : Int) + (j : Int) := by omega
        have h4' : ((k : Int) + (j : Int)).toNat = k + j := by omega
        have TC := Lib.hid (fun m : Nat => titleByte_c s[k + j] (decide (j = 0)) (wr.drewN m))
        rw [h4, h1, ← h4] at TC
        clear h1 h4
        cases hN : isTi n
        · rw [hN] at HN HTI
          simp only [Bool.false_eq_true, if_false] at HTI
          clear hN
          go_wp2_with (first | (go_at_call 53; rw [HTK.out]; (with_reducible refine (HN.out _).mono ?_); rintro e w4 ⟨rfl, hq4⟩) | (go_at_call 37; (with_reducible refine (fail_c 1 _).mono ?_); rintro e w5 ⟨rfl, rfl⟩) | go_quiet (first | (rw [hkz]; (with_reducible exact quiet_eq (TC.out _))) | (with_reducible exact quiet_eq (TC.out _))))
          refine ⟨rfl, gb_trans (gb_drewN hg _) (gb_qt hq4), ?_⟩
          rw [HTI.out]
        · rw [hN] at HN HTI
          simp only [if_true] at HTI
          clear hN
          go_wp2_with (first | (go_at_call 53; rw [HTK.out]; (with_reducible refine (HN.out _).mono ?_); rintro e w4 ⟨rfl, hq4⟩) | go_quiet (first | (rw [hkz]; (with_reducible exact quiet_eq (TC.out _))) | (with_reducible exact quiet_eq (TC.out _))))
          go_ret
          refine ⟨gb_trans (gb_drewN hg _) (gb_qt hq4), ?_⟩
          rw [HTI.out]
          exact ⟨by rw [← HTK.out]; rfl, by rw [HLS.out]; exact (hRr.of_bl ((Bl.refl _).drewN _)).of_bl hq4.bl, HSF.out⟩
      · have h2' : decide ((k : Int) + (j : Int) < (s.length : Int)) = false := by simp; omega
        cases hN : isTi n
        · rw [hN] at HN HTI
          simp only [Bool.false_eq_true, if_false] at HTI
          clear hN
          go_wp2_with (first | (go_at_call 53; rw [HTK.out]; (with_reducible refine (HN.out _).mono ?_); rintro e w4 ⟨rfl, hq4⟩) | (go_at_call 37; (with_reducible refine (fail_c 1 _).mono ?_); rintro e w5 ⟨rfl, rfl⟩) | go_quiet (fail))
          refine ⟨rfl, gb_trans (gb_drewN hg _) (gb_qt hq4), ?_⟩
          rw [HTI.out]
        · rw [hN] at HN HTI
          simp only [if_true] at HTI
          clear hN
          go_wp2_with (first | (go_at_call 53; rw [HTK.out]; (with_reducible refine (HN.out _).mono ?_); rintro e w4 ⟨rfl, hq4⟩) | go_quiet (fail))
          go_ret
          refine ⟨gb_trans (gb_drewN hg _) (gb_qt hq4), ?_⟩
          rw [HTI.out]
          exact ⟨by rw [← HTK.out]; rfl, by rw [HLS.out]; exact (hRr.of_bl ((Bl.refl _).drewN _)).of_bl hq4.bl, HSF.out⟩
end Go.Proofs.YtkacjnifhmgeiaaGreatDoor

/- Documents: bytes of titles; the reader in memory; begins, need, to, white. -/
import Derived.Test.YtkacjnifhmgeiaaGreatDoorGrpE
import Derived.Test.YtkacjnifhmgeiaaGreatDoorGrpG
namespace Go.Proofs.YtkacjnifhmgeiaaGreatDoor
open Go.RowKit

theorem xwhite_c (c : UInt8) (w : World) : Calls Tryz.prog 78 #[.int .u8 (c.toNat : Int)] w fun e w' => e = .returned (.bool (blk c)) ∧ w = w' := by
  go_enter Tryz.func78, Tryz.ntmps78
  go_wp2
  all_goals
    go_ret
    exact ⟨ret_bool (by rw [Bool.eq_iff_iff]; simp [blk]; omega), rfl⟩
theorem titleByte_c (c : UInt8) (f : Bool) (w : World) : Calls Tryz.prog 69 #[.int .u8 (c.toNat : Int), .bool f] w fun e w' => e = .returned (.bool (tiBy f c)) ∧ w = w' := by
  cases f
  all_goals
    go_enter Tryz.func69, Tryz.ntmps69
    go_wp2
    all_goals
      go_ret
      refine ⟨ret_bool ?_, rfl⟩
      rw [Bool.eq_iff_iff]
      simp only [beq_iff_eq, beq_eq_false_iff_ne, ne_eq] at *
      simp [tiBy, tiB, tiB1, ltr, lwr, dgt]
      try omega

/-- The reader of documents: its text, and where it stands. -/
def Xk (w : World) (b : Nat) (s : List UInt8) (k : Nat) : Prop := w.heap[b]? = some (.cells #[.string ⟨s.toArray⟩, .int .i64 (k : Int)] 54 (0, 0))
theorem Xk.lt {w : World} {b k : Nat} {s : List UInt8} (h : Xk w b s k) : b < w.heap.size := (Array.getElem?_eq_some_iff.1 h).1
theorem Xk.cells {w : World} {b k : Nat} {s : List UInt8} (h : Xk w b s k) :
    w.cell? ⟨b, 0, none⟩ = some (.string ⟨s.toArray⟩) ∧ w.cell? ⟨b, 1, none⟩ = some (.int .i64 (k : Int)) ∧ w.frozen? ⟨b, 0, none⟩ = false ∧ w.frozen? ⟨b, 1, none⟩ = false := by
  unfold Xk at h
  simp [World.cell?, World.frozen?, h]
theorem Xk.of_bl {w w' : World} {b k : Nat} {s : List UInt8} (h : Xk w b s k) (hb : Bl w w') : Xk w' b s k := by
  have := h.lt
  unfold Xk at *; rw [Below.block hb b this, h]
theorem Xk.seti {w : World} {b k : Nat} {s : List UInt8} (h : Xk w b s k) {n : Int} {j : Nat} (e : n = (j : Int)) : Xk (w.setCell ⟨b, 1, none⟩ (.int .i64 n)) b s j := by
  subst e
  unfold Xk at *
  simp [World.setCell, h, Array.getElem?_modify]
theorem Xk.of_gb {w w' : World} {b k : Nat} {s : List UInt8} {g : Option Nat} (h : Xk w b s k) (hg : w.grownBy w' g) (hne : some b ≠ g) : Xk w' b s k := by
  have := h.lt
  unfold Xk at *; rw [hg.block b this hne, h]
theorem Xk.at_eq {w : World} {b k : Nat} {s : List UInt8} (h : Xk w b s k) : atOf b w = k := by unfold atOf; rw [h.cells.2.1]; simp [intOf]
/-- The reader, by what is left. -/
structure Xr (w : World) (b : Nat) (s t : List UInt8) : Prop where
  rk : Xk w b s (s.length - t.length)
  sf : t <:+ s
theorem Xr.of_bl {w w' : World} {b : Nat} {s t : List UInt8} (h : Xr w b s t) (hb : Bl w w') : Xr w' b s t := ⟨h.rk.of_bl hb, h.sf⟩
theorem Xr.of_gb {w w' : World} {b : Nat} {s t : List UInt8} {g : Option Nat} (h : Xr w b s t) (hg : w.grownBy w' g) (hne : some b ≠ g) : Xr w' b s t := ⟨h.rk.of_gb hg hne, h.sf⟩
theorem Xr.len {w : World} {b : Nat} {s t : List UInt8} (h : Xr w b s t) : t.length ≤ s.length := h.sf.length_le
theorem Xr.meas {w : World} {b : Nat} {s t : List UInt8} (h : Xr w b s t) : s.length - atOf b w = t.length := by
  rw [h.rk.at_eq]; have := h.len; omega

/-- The panic of fail. -/
def ERN (n : Int) : List PanicEntry := [{ v := .iface 26 (.int .i64 n), recovered := false }]
theorem fail_c (n : Int) (w : World) : Calls Tryz.prog 37 #[.int .i64 n] w fun e w' => e = .panicked (ERN n) ∧ w = w' := by
  go_enter Tryz.func37, Tryz.ntmps37
  go_wp2
  exact ⟨rfl, rfl, rfl⟩

set_option maxHeartbeats 1000000 in
theorem beginsX_c (p : List UInt8) (b : Nat) (s t : List UInt8) (w : World) (hR : Xr w b s t) (_hs : s.length ≤ 1099511627776) :
    Calls Tryz.prog 63 #[.pointer (some ⟨b, 0, none⟩), .string ⟨p.toArray⟩] w fun e w' => e = .returned (.bool (pre p t)) ∧ Qt w w' := by
  obtain ⟨c0, c1, f0, f1⟩ := hR.rk.cells
  have hd := sfx_drop hR.sf
  have hk : s.length - t.length ≤ s.length := Nat.sub_le _ _
  obtain ⟨k, hk'⟩ : ∃ k, k = s.length - t.length := ⟨_, rfl⟩
  rw [← hk'] at c1 hd hk
  have HD := Lib.hid hd
  clear hR hk' hd
  go_enter Tryz.func63, Tryz.ntmps63
  go_wp2_with (go_quiet (first | (go_at_call 82; exact quiet_eq (hasPrefix_c (s.drop k) p _))))
  go_ret
  exact ⟨by rw [← HD.out]; rfl, (Qt.refl _).drewN _⟩
set_option maxHeartbeats 1000000 in
theorem needX_no (p : List UInt8) (b : Nat) (s t : List UInt8) (w : World) (hR : Xr w b s t) (hs : s.length ≤ 1099511627776) (h : pre p t = false) :
    Calls Tryz.prog 60 #[.pointer (some ⟨b, 0, none⟩), .string ⟨p.toArray⟩] w fun e w' => e = .panicked (ERN 1) ∧ Qt w w' := by
  have BC := Lib.hid (beginsX_c p b s t w hR hs)
  rw [h] at BC
  clear hR h
  go_enter Tryz.func60, Tryz.ntmps60
  go_wp2_with (first | (go_at_call 63; (with_reducible refine BC.out.mono ?_); rintro e w1 ⟨rfl, hq⟩) | (go_at_call 37; (with_reducible refine (fail_c 1 _).mono ?_); rintro e w2 ⟨rfl, rfl⟩))
  exact ⟨rfl, rfl, hq⟩
theorem drop_len_sub {s t : List UInt8} {p : Nat} (h : t <:+ s) (hp : p ≤ t.length) : s.length - (t.drop p).length = s.length - t.length + p := by
  have := h.length_le
  rw [List.length_drop]; omega
set_option maxHeartbeats 1000000 in
theorem needX_yes (p : List UInt8) (b : Nat) (s t : List UInt8) (w : World) (hR : Xr w b s t) (hs : s.length ≤ 1099511627776) (h : pre p t = true) :
    Calls Tryz.prog 60 #[.pointer (some ⟨b, 0, none⟩), .string ⟨p.toArray⟩] w fun e w' => e = .returned (.tuple #[]) ∧ Xr w' b s (t.drop p.length) ∧ w.grownBy w' (some b) := by
  have hpl := pre_len h
  have hl := hR.len
  have HR := Lib.hid hR
  have HL := Lib.hid (drop_len_sub hR.sf hpl)
  have BC := Lib.hid (beginsX_c p b s t w hR hs)
  rw [h] at BC
  obtain ⟨k, hk⟩ : ∃ k, k = s.length - t.length := ⟨_, rfl⟩
  have HK := Lib.hid hk
  have hkl : k + p.length ≤ s.length := by omega
  clear h hk hR
  go_enter Tryz.func60, Tryz.ntmps60
  go_wp2_with (first | (go_at_call 63; (with_reducible refine BC.out.mono ?_); rintro e w1 ⟨rfl, hq⟩; have hR1 := HR.out.of_bl hq.bl; obtain ⟨c0, c1, f0, f1⟩ := hR1.rk.cells; rw [← HK.out] at c1) | go_quiet (fail))
  go_end0
  exact ⟨rfl, ⟨hR1.rk.seti (by rw [HL.out, ← HK.out]; omega), (List.drop_suffix _ _).trans HR.out.sf⟩, gb_set (gb_qt hq) _ _⟩
theorem toS_none {p t : List UInt8} (h : toS p t = none) : cutS p t = none := by
  unfold toS at h
  simpa using h
theorem toS_some {p t v u : List UInt8} (h : toS p t = some (v, u)) : cutS p t = some u ∧ v = t.take (t.length - u.length - p.length) := by
  unfold toS at h
  cases e : cutS p t with
  | none => rw [e] at h; cases h
  | some r => rw [e] at h; simp only [Option.map_some, Option.some.injEq, Prod.mk.injEq] at h; obtain ⟨h1, rfl⟩ := h; exact ⟨rfl, h1.symm⟩
set_option maxHeartbeats 1000000 in
theorem toX_no (p : List UInt8) (hp : p ≠ []) (b : Nat) (s t : List UInt8) (w : World) (hR : Xr w b s t) (hs : s.length ≤ 4294967280) (hM : ML w) (hc : toS p t = none) :
    Calls Tryz.prog 79 #[.pointer (some ⟨b, 0, none⟩), .string ⟨p.toArray⟩] w fun e w' => e = .panicked (ERN 1) ∧ Qt w w' := by
  obtain ⟨c0, c1, f0, f1⟩ := hR.rk.cells
  have hd := sfx_drop hR.sf
  have hk : s.length - t.length ≤ s.length := Nat.sub_le _ _
  obtain ⟨k, hk'⟩ : ∃ k, k = s.length - t.length := ⟨_, rfl⟩
  rw [← hk'] at c1 hd hk
  have hc2 := toS_none hc
  rw [← hd] at hc2
  have hi : Lib.index (s.drop k) p = -1 := by
    rcases cutS_index p hp (s.drop k) with ⟨h1, _⟩ | ⟨i, _, _, h3⟩
    · exact h1
    · rw [hc2] at h3; cases h3
  have FC := Lib.hid (fun n : Nat => find_c (s.drop k) p (by simp; omega) (w.drewN n) (hM.of_bl ((Bl.refl _).drewN n)))
  rw [hi] at FC
  clear hR hk' hd hc hi hc2
  go_enter Tryz.func79, Tryz.ntmps79
  go_wp2_with (first | (go_at_call 37; (with_reducible refine (fail_c 1 _).mono ?_); rintro e w2 ⟨rfl, rfl⟩) | go_quiet (first | (go_at_call 95; exact quiet_eq (FC.out _))))
  exact ⟨rfl, rfl, (Qt.refl _).drewN _⟩
set_option maxHeartbeats 1000000 in
theorem toX_yes (p : List UInt8) (hp : p ≠ []) (b : Nat) (s t v u : List UInt8) (w : World) (hR : Xr w b s t) (hs : s.length ≤ 4294967280) (hM : ML w) (hc : toS p t = some (v, u)) :
    Calls Tryz.prog 79 #[.pointer (some ⟨b, 0, none⟩), .string ⟨p.toArray⟩] w fun e w' => e = .returned (.string ⟨v.toArray⟩) ∧ Xr w' b s u ∧ w.grownBy w' (some b) := by
  obtain ⟨c0, c1, f0, f1⟩ := hR.rk.cells
  have hd := sfx_drop hR.sf
  have hk : s.length - t.length ≤ s.length := Nat.sub_le _ _
  have hRk := hR.rk
  obtain ⟨hc2, hv⟩ := toS_some hc
  obtain ⟨k, hk'⟩ : ∃ k, k = s.length - t.length := ⟨_, rfl⟩
  rw [← hk'] at c1 hd hk hRk
  rw [← hd] at hc2 hv
  obtain ⟨i, hi, hil, hu⟩ : ∃ i : Nat, Lib.index (s.drop k) p = i ∧ i + p.length ≤ (s.drop k).length ∧ u = s.drop (k + (i + p.length)) := by
    rcases cutS_index p hp (s.drop k) with ⟨_, h1⟩ | ⟨i, h1, h2, h3⟩
    · rw [hc2] at h1; cases h1
    · rw [hc2, List.drop_drop] at h3; exact ⟨i, h1, h2, Option.some.inj h3⟩
  rw [List.length_drop] at hil
  have hp0 : 0 < p.length := List.length_pos_iff.2 hp
  have hv2 : v = (s.drop k).take i := by
    rw [hv, hu, List.length_drop, List.length_drop]
    congr 1; omega
  have FC := Lib.hid (fun n : Nat => find_c (s.drop k) p (by simp; omega) (w.drewN n) (hM.of_bl ((Bl.refl _).drewN n)))
  rw [hi] at FC
  have hul : k + (i + p.length) = s.length - u.length := by rw [hu, List.length_drop]; omega
  have HU := Lib.hid hul
  have HV := Lib.hid hv2
  have HS := Lib.hid (show u <:+ s by rw [hu]; exact List.drop_suffix _ _)
  have i0 : ¬ (i : Int) < 0 := by omega
  have hib : k + i + p.length ≤ s.length := by omega
  have hsl : k + i - k = i := by omega
  have HSL := Lib.hid hsl
  clear hR hk' hd hc hi hu hul hv hv2 hc2 hsl
  go_enter Tryz.func79, Tryz.ntmps79
  go_wp2_with (go_quiet (first | (go_at_call 95; exact quiet_eq (FC.out _))))
  go_ret
  refine ⟨?_, ⟨(hRk.of_bl ((Bl.refl _).drewN _)).seti (by rw [← HU.out]; omega), HS.out⟩, gb_set (gb_drewN (gb_refl _ _) _) _ _⟩
  show Ending.returned (.string ⟨(List.take i (List.drop k s)).toArray⟩) = _
  rw [HV.out]

theorem ws_tw (t : List UInt8) : (t.takeWhile blk).length + (wsX t).length = t.length := by
  have := congrArg List.length (List.takeWhile_append_dropWhile (p := blk) (l := t))
  rw [List.length_append] at this; exact this
set_option maxHeartbeats 1000000 in
theorem whiteX_c (b : Nat) (s t : List UInt8) (w : World) (hR : Xr w b s t) (hs : s.length ≤ 1099511627776) :
    Calls Tryz.prog 58 #[.pointer (some ⟨b, 0, none⟩)] w fun e w' => e = .returned (.int .i64 ((t.length - (wsX t).length : Nat) : Int)) ∧ Xr w' b s (wsX t) ∧ w.grownBy w' (some b) := by
  have hd := sfx_drop hR.sf
  have hl := hR.len
  have hrk := hR.rk
  obtain ⟨c0, c1, f0, f1⟩ := hR.rk.cells
  obtain ⟨k, hk'⟩ : ∃ k, k = s.length - t.length := ⟨_, rfl⟩
  rw [← hk'] at hd c1 hrk
  have hwt := ws_tw t
  have HIN := Lib.hid (hd_in blk s k)
  have HOUT := Lib.hid (hd_out blk s k)
  rw [hd] at HIN HOUT
  have HSF := Lib.hid ((List.dropWhile_suffix blk).trans hR.sf : wsX t <:+ s)
  obtain ⟨n, hn⟩ : ∃ n, n = (t.takeWhile blk).length := ⟨_, rfl⟩
  rw [← hn] at HIN HOUT hwt
  have hln : t.length - (wsX t).length = n := by omega
  have hls : s.length - (wsX t).length = k + n := by omega
  rw [hln]
  have HLS := Lib.hid hls
  have hkn : k + n ≤ s.length := by omega
  clear hR hd hk' hn hln hls hwt hl
  go_enter Tryz.func58, Tryz.ntmps58
  go_wp2
  clear c0 c1 f0 f1
  go_loopw [] (fun wr => ∃ j : Nat, j ≤ n ∧ Xk wr b s (k + j) ∧ w.grownBy wr (some b)) (fun wr => s.length - atOf b wr)
  case atStart => exact ⟨0, Nat.zero_le _, hrk, gb_refl _ _⟩
  case round =>
    obtain ⟨j, hj, hRr, hg⟩ := hrel
    obtain ⟨c0, c1, f0, f1⟩ := hRr.cells
    by_cases hlt : j < n
    · obtain ⟨h1, h2⟩ := HIN.out j hlt
      have h2' : (k : Int) + (j : Int) < (s.length : Int) := by omega
      have h3' : (0 : Int) ≤ (k : Int) + (j : Int) := by omega
      have h4' : ((k : Int) + (j : Int)).toNat = k + j := by omega
      rw [hd_drop blk s _ h2] at h1
      have WC := Lib.hid (fun m : Nat => xwhite_c s[k + j] (wr.drewN m))
      rw [h1] at WC
      clear h1
      go_wp2_with (go_quiet (first | (go_at_call 78; exact quiet_eq (WC.out _))))
      go_roundw
      case rel => exact ⟨j + 1, by omega, (hRr.of_bl ((Bl.refl _).drewN _)).seti (by omega), gb_set (gb_drewN hg _) _ _⟩
      case measure =>
        have hz : ∀ m, atOf b ((wr.drewN m).setCell ⟨b, 1, none⟩ (.int .i64 ((k : Int) + (j : Int) + 1))) = k + j + 1 := fun m => ((hRr.of_bl ((Bl.refl _).drewN m)).seti (by omega)).at_eq
        rw [hRr.at_eq, hz]; omega
    · obtain rfl : j = n := by omega
      have h1 := HOUT.out
      by_cases h2 : k + j < s.length
      · have h2' : (k : Int) + (j : Int) < (s.length : Int) := by omega
        have h3' : (0 : Int) ≤ (k : Int) + (j : Int) := by omega
        have h4' : ((k : Int) + (j : Int)).toNat = k + j := by omega
        rw [hd_drop blk s _ h2] at h1
        have WC := Lib.hid (fun m : Nat => xwhite_c s[k + j] (wr.drewN m))
        rw [h1] at WC
        clear h1
        go_wp2_with (go_quiet (first | (go_at_call 78; exact quiet_eq (WC.out _))))
        go_ret
        exact ⟨ret_int (by omega), ⟨by rw [HLS.out]; exact hRr.of_bl ((Bl.refl _).drewN _), HSF.out⟩, gb_drewN hg _⟩
      · have h2' : decide ((k : Int) + (j : Int) < (s.length : Int)) = false := by simp; omega
        clear h1
        go_wp2_with (go_quiet (fail))
        go_ret
        exact ⟨ret_int (by omega), ⟨by rw [HLS.out]; exact hRr.of_bl ((Bl.refl _).drewN _), HSF.out⟩, gb_drewN hg _⟩
end Go.Proofs.YtkacjnifhmgeiaaGreatDoor

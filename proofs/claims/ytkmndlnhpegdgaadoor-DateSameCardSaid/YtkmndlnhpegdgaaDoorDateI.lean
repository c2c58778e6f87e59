/- DateZones: the walk of the law. -/
import Derived.Test.YtkmndlnhpegdgaaDoorDateLaw2
import Derived.Test.YtkmndlnhpegdgaaDoorDateH
namespace Go.Proofs.YtkmndlnhpegdgaaDoor
open Go.RowKit

theorem conv_two (W : World) (b : Nat) (x y : Int) (hx : 0 ≤ x ∧ x ≤ 255) (hy : 0 ≤ y ∧ y ≤ 255) (hc : W.cell? ⟨b, 0, none⟩ = some (.int .u8 x)) (hd : W.cell? ⟨b, 1, none⟩ = some (.int .u8 y)) :
    (convert 31 9 (.slice (some ⟨b, 0, none⟩) 2 2)).run Tryd.prog W = .ok (.string ⟨[UInt8.ofNat x.toNat, UInt8.ofNat y.toNat].toArray⟩) W := by
  refine run_convert_bytes_back _ 31 9 5 ⟨b, 0, none⟩ 2 [UInt8.ofNat x.toNat, UInt8.ofNat y.toNat] Tryd.underlying31 Tryd.underlying5 Tryd.underlying9 fun j hj => ?_
  have e : ∀ n : Int, 0 ≤ n ∧ n ≤ 255 → ((UInt8.ofNat n.toNat).toNat : Int) = n := fun n hn => by simp [UInt8.toNat_ofNat']; omega
  have hj' : j = 0 ∨ j = 1 := by simp at hj; omega
  rcases hj' with rfl | rfl
  · simp only [Addr.add, if_true, hc, List.getElem_cons_zero, e x hx]
  · have h1 := e y hy
    simp only [Addr.add, List.getElem_cons_succ, List.getElem_cons_zero, h1]
    exact hd

theorem DateG_len (y m : Nat) (d n : Int) : (DateG y m d n).length = 20 := by simp [DateG, Dgs_len]
theorem zone_text (y m : Nat) (d n : Int) (p : Parts d n) (h mi : Int) (h0 : 10 ≤ h ∧ h ≤ 23) (m0 : 10 ≤ mi ∧ mi ≤ 59) :
    List.take ((DateG y m (d + 1) n).length - 1) (DateG y m (d + 1) n) ++ [43, UInt8.ofNat (48 + h / 10).toNat, UInt8.ofNat (48 + h % 10).toNat, 58, UInt8.ofNat (48 + mi / 10).toNat, UInt8.ofNat (48 + mi % 10).toNat] =
      Dgs y 4 ++ 45 :: (Dgs m 2 ++ 45 :: (Dgs ((p.dn + 1 : Nat) : Int) 2 ++ 84 :: (Dgs (p.h : Int) 2 ++ 58 :: (Dgs (p.mi : Int) 2 ++ 58 :: (Dgs (p.s : Int) 2 ++ 43 :: (Dgs (h.toNat : Int) 2 ++ 58 :: Dgs (mi.toNat : Int) 2)))))) := by
  rw [DateG_len, DateG_parts y m d n p]
  simp only [dgs4, dgs2]
  rw [show (48 + h / 10).toNat = 48 + h.toNat / 10 % 10 by omega, show (48 + h % 10).toNat = 48 + h.toNat % 10 by omega, show (48 + mi / 10).toNat = 48 + mi.toNat / 10 % 10 by omega, show (48 + mi % 10).toNat = 48 + mi.toNat % 10 by omega]
  rfl
theorem PrIs.zone {a : Int} {t : List UInt8} (h : PrIs a 0 t) (hh mi : Int) (h0 : 10 ≤ hh ∧ hh ≤ 23) (m0 : 10 ≤ mi ∧ mi ≤ 59) :
    WebP (List.take (t.length - 1) t ++ [43, UInt8.ofNat (48 + hh / 10).toNat, UInt8.ofNat (48 + hh % 10).toNat, 58, UInt8.ofNat (48 + mi / 10).toNat, UInt8.ofNat (48 + mi % 10).toNat]) =
      if a - 3600 * hh - 60 * mi < 0 then .returned (.tuple #[.int .i64 0, .int .i64 3]) else .returned (.tuple #[.int .i64 (a - 3600 * hh - 60 * mi), .int .i64 0]) := by
  rcases h.ans with ⟨_, _, y, m, d, n, hD, ht⟩ | ⟨_, hb, _⟩
  · have p := mkParts d n hD.d0 hD.n0 hD.n1
    rw [ht, zone_text y m d n p hh mi h0 m0, web_zone hD p hh.toNat mi.toNat (by omega) (by omega)]
    rw [show 3600 * (hh.toNat : Int) + 60 * (mi.toNat : Int) = 3600 * hh + 60 * mi by omega]
    split
    · exact td_neg hD (by omega)
    · rw [td_less hD (by omega) (by omega), show a - (3600 * hh + 60 * mi) = a - 3600 * hh - 60 * mi by omega]
  · cases hb
theorem PrIs.day {a : Int} {t u : List UInt8} (h : PrIs a 0 t) (k : PrIs (a + 86400) 0 u) : List.drop 10 u = List.drop 10 t := by
  rcases h.ans with ⟨_, _, y, m, d, n, hD, ht⟩ | ⟨_, hb, _⟩
  · rcases k.ans with ⟨_, _, y', m', d', n', hE, hu⟩ | ⟨_, hb, _⟩
    · obtain rfl : n = n' := by have := hD.eq; have := hE.eq; have := hD.n0; have := hD.n1; have := hE.n0; have := hE.n1; omega
      have e : ∀ (y m : Nat) (d : Int), List.drop 10 (DateG y m d n) = 84 :: (Dgs (n / 3600) 2 ++ 58 :: (Dgs (n % 3600 / 60) 2 ++ 58 :: (Dgs (n % 60) 2 ++ [90]))) := fun y m d => by
        have : DateG y m d n = (Dgs y 4 ++ 45 :: (Dgs m 2 ++ 45 :: Dgs d 2)) ++ 84 :: (Dgs (n / 3600) 2 ++ 58 :: (Dgs (n % 3600 / 60) 2 ++ 58 :: (Dgs (n % 60) 2 ++ [90]))) := by simp [DateG]
        rw [this]
        exact List.drop_left' (by simp [Dgs_len])
      rw [ht, hu, e, e]
    · cases hb
  · cases hb
theorem PrIs.twenty {a : Int} {t : List UInt8} (h : PrIs a 0 t) : 20 ≤ t.length := by
  rcases h.ans with ⟨_, _, y, m, d, n, hD, ht⟩ | ⟨_, hb, _⟩
  · rw [ht, DateG_len]; exact Nat.le_refl _
  · cases hb

set_option maxRecDepth 100000 in
set_option maxHeartbeats 2000000 in
theorem dateZones_c (a h mi : Int) (w : World) (hT : TI w) :
    Calls Tryd.prog 5 #[.int .i64 a, .int .i64 h, .int .i64 mi] w fun e w' => e = .returned (.bool true) ∧ Bl w w' := by
  obtain ⟨xa, ta, pa⟩ := print_all a
  have PA := Lib.hid pa.call
  by_cases hv : 0 ≤ a ∧ a ≤ 4102444799
  · obtain rfl := pa.zero hv
    by_cases hh : (10 ≤ h ∧ h ≤ 23) ∧ (10 ≤ mi ∧ mi ≤ 59)
    · obtain ⟨xb, tb, pb⟩ := print_all (a + 86400)
      have PB := Lib.hid pb.call
      have la := pa.twenty
      have la' : ta.length ≤ 20 := pa.len
      obtain ⟨⟨h0, h1⟩, m0, m1⟩ := hh
      have wz := fun W => web_c (List.take (ta.length - 1) ta ++ [43, UInt8.ofNat (48 + h / 10).toNat, UInt8.ofNat (48 + h % 10).toNat, 58, UInt8.ofNat (48 + mi / 10).toNat, UInt8.ofNat (48 + mi % 10).toNat]) (by simp; omega) W
      rw [pa.zone h mi ⟨h0, h1⟩ ⟨m0, m1⟩] at wz
      have cv1 := fun W b => conv_two W b (48 + h / 10) (48 + h % 10) (by omega) (by omega)
      have cv2 := fun W b => conv_two W b (48 + mi / 10) (48 + mi % 10) (by omega) (by omega)
      by_cases hneg : a - 3600 * h - 60 * mi < 0
      · rw [if_pos hneg] at wz
        have WZ := Lib.hid wz
        clear wz
        go_enter Tryd.func5, Tryd.ntmps5
        go_wp2_with (first | (go_at_call 13; refine (begun_c _ (by assumption)).mono ?_; rintro e w' ⟨rfl, hb'⟩; have ht := TI.of_bl (by assumption) hb') | (go_at_call 9; (with_reducible first | refine (PA.out _ (by assumption)).mono ?_ | refine (PB.out _ (by assumption)).mono ?_); rintro e w' ⟨rfl, hb'⟩; have ht := TI.of_bl (by assumption) hb') | (go_at_call 7; (with_reducible refine (WZ.out _).mono ?_); rintro e w' ⟨rfl, hb'⟩))
        go_ret
        exact ⟨rfl, by repeat (first | exact Bl.refl _ | assumption | refine Bl.alloc ?_ _ | refine Bl.trans ?_ (by assumption))⟩
      · rw [if_neg hneg] at wz
        have WZ := Lib.hid wz
        clear wz
        have i1 : (10 : Int) ≤ ta.length := by omega
        have i2 : 10 ≤ ta.length := by omega
        have hxb : (xb = 0 ∧ (10 : Int) ≤ tb.length ∧ 10 ≤ tb.length ∧ (List.drop 10 tb == List.drop 10 ta) = true) ∨ xb = 3 := by
          rcases pb.ans with ⟨_, hx, _⟩ | ⟨_, hx, _⟩
          · subst hx; have := pb.twenty; exact Or.inl ⟨rfl, by omega, by omega, by rw [pa.day pb]; simp⟩
          · exact Or.inr hx
        clear pa pb
        rcases hxb with ⟨rfl, i3, i4, hdr⟩ | rfl
        all_goals
          go_enter Tryd.func5, Tryd.ntmps5
          go_wp2_with (first | (go_at_call 13; refine (begun_c _ (by assumption)).mono ?_; rintro e w' ⟨rfl, hb'⟩; have ht := TI.of_bl (by assumption) hb') | (go_at_call 9; (with_reducible first | refine (PA.out _ (by assumption)).mono ?_ | refine (PB.out _ (by assumption)).mono ?_); rintro e w' ⟨rfl, hb'⟩; have ht := TI.of_bl (by assumption) hb') | (go_at_call 7; (with_reducible refine (WZ.out _).mono ?_); rintro e w' ⟨rfl, hb'⟩; have ht := TI.of_bl (TI.of_bl (by assumption) (Bl.alloc (Bl.alloc (Bl.refl _) _) _)) hb') | go_quiet (fail))
          go_ret
          exact ⟨rfl, by repeat (first | exact Bl.refl _ | assumption | refine Bl.alloc ?_ _ | refine Bl.drew ?_ | refine Bl.drewN ?_ _ | refine Bl.trans ?_ (by assumption))⟩
    · go_enter Tryd.func5, Tryd.ntmps5
      go_wp2_with (first | (go_at_call 13; refine (begun_c _ (by assumption)).mono ?_; rintro e w' ⟨rfl, hb'⟩; have ht := TI.of_bl (by assumption) hb') | (go_at_call 9; (with_reducible refine (PA.out _ (by assumption)).mono ?_); rintro e w' ⟨rfl, hb'⟩; have ht := TI.of_bl (by assumption) hb'))
      all_goals
        go_ret
        exact ⟨rfl, by repeat (first | exact Bl.refl _ | assumption | refine Bl.trans ?_ (by assumption))⟩
  · obtain rfl := pa.three hv
    obtain rfl : ta = [] := by rcases pa.ans with ⟨h, _⟩ | ⟨_, _, h⟩; (exact absurd h hv); exact h
    go_enter Tryd.func5, Tryd.ntmps5
    go_wp2_with (first | (go_at_call 13; refine (begun_c _ (by assumption)).mono ?_; rintro e w' ⟨rfl, hb'⟩; have ht := TI.of_bl (by assumption) hb') | (go_at_call 9; (with_reducible refine (PA.out _ (by assumption)).mono ?_); rintro e w' ⟨rfl, hb'⟩; have ht := TI.of_bl (by assumption) hb'))
    go_ret
    exact ⟨rfl, by repeat (first | exact Bl.refl _ | assumption | refine Bl.trans ?_ (by assumption))⟩
end Go.Proofs.YtkmndlnhpegdgaaDoor

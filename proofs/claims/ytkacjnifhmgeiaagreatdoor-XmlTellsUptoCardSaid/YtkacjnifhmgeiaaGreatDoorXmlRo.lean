/- Documents, the reference: what is printed. -/
import Derived.Test.YtkacjnifhmgeiaaGreatDoorXmlP
import Derived.Test.YtkacjnifhmgeiaaGreatDoorTokRb
namespace Go.Proofs.YtkacjnifhmgeiaaGreatDoor
open Go.RowKit

set_option maxRecDepth 100000 in
set_option maxHeartbeats 8000000 in
theorem xmlBytesR_c (N : Nat) : ∀ (d : Nd) (va vk : Value) (P : Nat → Prop) (w : World), wtN d < N → N ≤ 10000000 → AtP w P va d.a → NdS w P vk d.k →
    Calls Tryz.prog 11 #[.agg #[.string ⟨d.n.toArray⟩, va, .string ⟨d.x.toArray⟩, vk]] w fun e w' => e = .returned (.string ⟨(wrX d).toArray⟩) ∧ Bl w w' := by
  induction N with
  | zero => intro d va vk P w h; omega
  | succ N ih =>
    intro d va vk P w hN hN2 hA hK
    have hw := wtN_mk d
    have hla := wtA_len d.a
    have hsz := szA_wt d.a
    have haw := atW_len d.a
    have hwl := wrL_len d.k
    have hll := cnt_len d.k
    have hlc := wt_cnt d.k
    have WC := Lib.hid (fun W (hb : Bl w W) => attrBytes_c d.a va (by omega) W (hA.ats.of_bl hb))
    have TC := Lib.hid (fun W => putOf_c d.x (by omega) W)
    obtain ⟨ao, ac, rfl, -⟩ := id hA
    obtain ⟨ko, kc, rfl, hkc, hK⟩ := hK.get
    have IH := Lib.hid ih
    have HK := Lib.hid hK
    clear ih hK hA
    have hP0 := nb_par w d.n d.x ao d.a.length ac ko d.k.length kc
    by_cases hn : d.n = []
    · have hne : d.n.isEmpty = true := by simp [hn]
      have HR := Lib.hid (wrX_txt hn)
      clear hn
      go_enter Tryz.func11, Tryz.ntmps11
      go_wp2_with (go_at_call 24; (with_reducible refine (TC.out _).mono ?_); rintro e w1 ⟨rfl, rfl⟩)
      go_ret
      exact ⟨by rw [HR.out]; rfl, (Bl.refl _).alloc _⟩
    · have hne : d.n.isEmpty = false := emp2 hn
      by_cases hk0 : d.k = []
      · have HR := Lib.hid (wrX_el hn hk0)
        rw [show d.k.length = 0 by simp [hk0]] at hP0 ⊢
        clear hn hk0
        go_enter Tryz.func11, Tryz.ntmps11
        go_wp2
        go_region_with (go_at_call 25; (with_reducible refine (WC.out _ ((Bl.refl _).alloc _).drew).mono ?_); rintro e w1 ⟨rfl, hb1⟩; obtain ⟨p0, p1, p2, p3, -⟩ := (hP0.of_bl (Bl.refl _).drew).of_bl hb1 |>.cells)
        all_goals
          go_wp2
          go_ret
          refine ⟨?_, (((Bl.refl _).alloc _).drew).trans hb1⟩
          rw [HR.out]
          simp
      · have HR := Lib.hid (wrX_kids hn hk0)
        have hk1 : 0 < d.k.length := List.length_pos_iff.2 hk0
        have hkf : ((d.k.length : Int) == 0) = false := by simp; omega
        clear hn hk0
        go_enter Tryz.func11, Tryz.ntmps11
        go_wp2
        go_region_with (go_at_call 25; (with_reducible refine (WC.out _ ((Bl.refl _).alloc _).drew).mono ?_); rintro e w1 ⟨rfl, hb1⟩; have hP1 := (hP0.of_bl (Bl.refl _).drew).of_bl hb1; obtain ⟨p0, p1, p2, p3, -⟩ := hP1.cells)
        all_goals
          go_wp2
          have hw1 : Bl w w1 := (((Bl.refl _).alloc _).drew).trans hb1
          have hz1 : w.heap.size < w1.heap.size := by have h2 := Below.size hb1; have h3 := Below.size ((Bl.refl (w.alloc (.cells #[.string ⟨d.n.toArray⟩, .slice ao d.a.length ac, .string ⟨d.x.toArray⟩, .slice ko d.k.length kc] 25))).drew); rw [alloc_size] at h3; omega
          clear p1 p2
          go_loopw [3, 4] (fun u i wr => ∃ k : Nat, k ≤ d.k.length ∧ i = .int .i64 k ∧ u = .string ⟨(60 :: d.n ++ atW d.a ++ [62] ++ wrL (d.k.take k)).toArray⟩ ∧ Bl w1 wr) (fun _ i _ => d.k.length - (intOf i).toNat)
          case atStart => exact ⟨0, Nat.zero_le _, rfl, by simp [wrL], Bl.refl _⟩
          case round =>
            obtain ⟨k, hk, rfl, rfl, hb⟩ := hrel
            have hbw := hw1.trans hb
            have p0r := (hb.cells.1 w.heap.size 0 hz1).trans p0
            have p3r := (hb.cells.1 w.heap.size 3 hz1).trans p3
            clear p0 p3
            by_cases hlt : k < d.k.length
            · obtain ⟨g, o, va', vk', rfl, hg, -, h1, h2, h3, h4, h5, h6⟩ := HK.out k hlt
              have y1 := (hbw.cells.1 g _ hg).trans h1
              have y2 := (hbw.cells.1 g _ hg).trans h2
              have y3 := (hbw.cells.1 g _ hg).trans h3
              have y4 := (hbw.cells.1 g _ hg).trans h4
              have hgr : g < wr.heap.size := Nat.lt_of_lt_of_le hg (Below.size hbw)
              have hwt := wt_get d.k k hlt
              have hwn := wtN_mk d.k[k]
              have BC := Lib.hid (fun W (hbW : Bl wr W) => IH.out d.k[k] va' vk' P W (by omega) (by omega) ((h5.still (Still.of_bl hbw)).still (Still.of_bl hbW)) ((h6.of_bl hbw).of_bl hbW))
              have HT := Lib.hid (wrL_take d.k k hlt)
              have hlen := wrL_take_le d.k (k + 1) (by omega)
              rw [HT.out, List.length_append] at hlen
              obtain ⟨a1, n1, c1, rfl⟩ : ∃ a n c, va' = .slice a n c := by obtain ⟨a, c, e, -⟩ := h5; exact ⟨a, _, c, e⟩
              obtain ⟨a2, c2, rfl⟩ : ∃ a c, vk' = .slice a d.k[k].k.length c := by obtain ⟨a, c, e, -⟩ := h6; exact ⟨a, c, e⟩
              clear h1 h2 h3 h4 h5 h6
              go_wp2_with (go_at_call 11; (with_reducible refine (BC.out _ (Bl.refl _)).mono ?_); rintro e w2 ⟨rfl, hb2⟩)
              go_roundw
              case rel => exact ⟨k + 1, by omega, by go_num, by rw [HT.out]; simp, hb.trans hb2⟩
              case measure => simp [intOf]; omega
            · have HT := Lib.hid (show d.k.take k = d.k from List.take_of_length_le (by omega))
              rw [HT.out]
              go_wp2
              go_ret
              refine ⟨?_, hbw⟩
              rw [HR.out]
              simp
end Go.Proofs.YtkacjnifhmgeiaaGreatDoor

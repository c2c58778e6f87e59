/- Documents: bytes, Print. -/
import Derived.Test.YtkacjnifhmgeiaaGreatDoorGrpP
import Derived.Test.YtkacjnifhmgeiaaGreatDoorTokWr
namespace Go.Proofs.YtkacjnifhmgeiaaGreatDoor
open Go.RowKit

theorem szA_wt (l : List Atr) : szA l ≤ 6 * wtA l := by
  induction l with
  | nil => simp [szA, wtA]
  | cons a l ih => simp only [szA, wtA, List.map_cons, List.sum_cons] at *; omega
theorem wrX_len (d : Nd) (h : (wrL d.k).length ≤ 6 * wtL d.k) : (wrX d).length ≤ 6 * wtN d := by
  cases d with
  | mk n a x k =>
    simp only [Nd.k] at h
    have h1 := PutL_len x
    have h2 := atW_len a
    have h3 := szA_wt a
    simp only [wrX, wtN]
    split
    · omega
    · simp only [List.length_cons, List.length_append]
      split
      · simp only [List.length_cons, List.length_nil]; omega
      · simp only [List.length_cons, List.length_append, List.length_nil]; omega
theorem wrL_len (l : List Nd) : (wrL l).length ≤ 6 * wtL l := by
  induction l using Nd.ind with
  | h0 => simp [wrL]
  | h1 n a x k l ik il =>
    have h1 := wrX_len (.mk n a x k) ik
    simp only [wrL, wtL, List.length_append]
    omega
theorem wrL_take (l : List Nd) (k : Nat) (h : k < l.length) : wrL (l.take (k + 1)) = wrL (l.take k) ++ wrX l[k] := by
  rw [take_snoc l k h]
  generalize l.take k = m
  induction m with
  | nil => simp [wrL]
  | cons c m ih => simp only [List.cons_append, wrL, ih, List.append_assoc]
theorem wrL_take_le (l : List Nd) (k : Nat) (_h : k ≤ l.length) : (wrL (l.take k)).length ≤ (wrL l).length := by
  have e : ∀ m r : List Nd, wrL (m ++ r) = wrL m ++ wrL r := by
    intro m r
    induction m with
    | nil => simp [wrL]
    | cons c m ih => simp only [List.cons_append, wrL, ih, List.append_assoc]
  have := congrArg List.length (e (l.take k) (l.drop k))
  rw [List.take_append_drop, List.length_append] at this
  omega
theorem wrX_txt {d : Nd} (h : d.n = []) : wrX d = PutL d.x := by
  cases d with
  | mk n a x k => simp only [Nd.n, Nd.x] at *; subst h; simp [wrX]
theorem wrX_el {d : Nd} (h : d.n ≠ []) (hk : d.k = []) : wrX d = 60 :: d.n ++ atW d.a ++ [47, 62] := by
  cases d with
  | mk n a x k => simp only [Nd.n, Nd.a, Nd.k] at *; subst hk; simp [wrX, h]
theorem wrX_kids {d : Nd} (h : d.n ≠ []) (hk : d.k ≠ []) : wrX d = 60 :: d.n ++ atW d.a ++ [62] ++ wrL d.k ++ [60, 47] ++ d.n ++ [62] := by
  cases d with
  | mk n a x k => simp only [Nd.n, Nd.a, Nd.k] at *; simp [wrX, h, hk]

set_option maxRecDepth 100000 in
set_option maxHeartbeats 8000000 in
theorem bytesX_c (N : Nat) : ∀ (d : Nd) (va vk : Value) (P : Nat → Prop) (w : World), wtN d < N → N ≤ 10000000 → AtP w P va d.a → NdS w P vk d.k →
    Calls Tryz.prog 18 #[.agg #[.string ⟨d.n.toArray⟩, va, .string ⟨d.x.toArray⟩, vk]] w fun e w' => e = .returned (.string ⟨(wrX d).toArray⟩) ∧ Bl w w' := by
  induction N with
  | zero => intro d va vk P w h; omega
  | succ N ih =>
    intro d va vk P w hN hN2 hA hK
    have hw := wtN_mk d
    have hla := wtA_len d.a
    have hsz := szA_wt d.a
    have haw := atW_len d.a
    have hwl := wrL_len d.k
    have hll := cnt_len d.k
    have hlc := wt_cnt d.k
    have WC := Lib.hid (fun W (hb : Bl w W) => written_c d.a va (by omega) (by omega) W (hA.ats.of_bl hb))
    have TC := Lib.hid (fun W => told_c d.x (by omega) W)
    obtain ⟨ao, ac, rfl, -⟩ := id hA
    obtain ⟨ko, kc, rfl, hkc, hK⟩ := hK.get
    have IH := Lib.hid ih
    have HK := Lib.hid hK
    clear ih hK hA
    have hP0 := nb_par w d.n d.x ao d.a.length ac ko d.k.length kc
    by_cases hn : d.n = []
    · have hne : d.n.isEmpty = true := by simp [hn]
      have HR := Lib.hid (wrX_txt hn)
      clear hn
      go_enter Tryz.func18, Tryz.ntmps18
      go_wp2_with (go_at_call 38; (with_reducible refine (TC.out _).mono ?_); rintro e w1 ⟨rfl, hb1⟩)
      go_ret
      exact ⟨by rw [HR.out]; rfl, ((Bl.refl _).alloc _).trans hb1⟩
    · have hne : d.n.isEmpty = false := emp2 hn
      by_cases hk0 : d.k = []
      · have HR := Lib.hid (wrX_el hn hk0)
        rw [show d.k.length = 0 by simp [hk0]] at hP0 ⊢
        clear hn hk0
        go_enter Tryz.func18, Tryz.ntmps18
        go_wp2
        go_region_with (go_at_call 39; (with_reducible refine (WC.out _ ((Bl.refl _).alloc _).drew).mono ?_); rintro e w1 ⟨rfl, hb1⟩; obtain ⟨p0, p1, p2, p3, -⟩ := (hP0.of_bl (Bl.refl _).drew).of_bl hb1 |>.cells)
        all_goals
          go_wp2
          go_ret
          refine ⟨?_, (((Bl.refl _).alloc _).drew).trans hb1⟩
          rw [HR.out]
          simp
      · have HR := Lib.hid (wrX_kids hn hk0)
        have hk1 : 0 < d.k.length := List.length_pos_iff.2 hk0
        have hkf : ((d.k.length : Int) == 0) = false := by simp; omega
        clear hn hk0
        go_enter Tryz.func18, Tryz.ntmps18
        go_wp2
        go_region_with (go_at_call 39; (with_reducible refine (WC.out _ ((Bl.refl _).alloc _).drew).mono ?_); rintro e w1 ⟨rfl, hb1⟩; have hP1 := (hP0.of_bl (Bl.refl _).drew).of_bl hb1; obtain ⟨p0, p1, p2, p3, -⟩ := hP1.cells)
        all_goals
          go_wp2
          have hw1 : Bl w w1 := (((Bl.refl _).alloc _).drew).trans hb1
          have hz1 : w.heap.size < w1.heap.size := by have h2 := Below.size hb1; have h3 := Below.size ((Bl.refl (w.alloc (.cells #[.string ⟨d.n.toArray⟩, .slice ao d.a.length ac, .string ⟨d.x.toArray⟩, .slice ko d.k.length kc] 25))).drew); rw [alloc_size] at h3; omega
          clear p1 p2 p3
          go_loopw [3, 30] (fun u i wr => ∃ k : Nat, k ≤ d.k.length ∧ i = .int .i64 k ∧ u = .string ⟨(60 :: d.n ++ atW d.a ++ [62] ++ wrL (d.k.take k)).toArray⟩ ∧ Bl w1 wr) (fun _ i _ => d.k.length - (intOf i).toNat)
          case atStart => exact ⟨0, Nat.zero_le _, rfl, by simp [wrL], Bl.refl _⟩
          case round =>
            obtain ⟨k, hk, rfl, rfl, hb⟩ := hrel
            have hbw := hw1.trans hb
            have p0r := (hb.cells.1 w.heap.size 0 hz1).trans p0
            clear p0
            by_cases hlt : k < d.k.length
            · obtain ⟨g, o, va', vk', rfl, hg, -, h1, h2, h3, h4, h5, h6⟩ := HK.out k hlt
              have y1 := (hbw.cells.1 g _ hg).trans h1
              have y2 := (hbw.cells.1 g _ hg).trans h2
              have y3 := (hbw.cells.1 g _ hg).trans h3
              have y4 := (hbw.cells.1 g _ hg).trans h4
              have hgr : g < wr.heap.size := Nat.lt_of_lt_of_le hg (Below.size hbw)
              have hwt := wt_get d.k k hlt
              have hwn := wtN_mk d.k[k]
              have BC := Lib.hid (fun W (hbW : Bl wr W) => IH.out d.k[k] va' vk' P W (by omega) (by omega) ((h5.still (Still.of_bl hbw)).still (Still.of_bl hbW)) ((h6.of_bl hbw).of_bl hbW))
              have HT := Lib.hid (wrL_take d.k k hlt)
              have hlen := wrL_take_le d.k (k + 1) (by omega)
              rw [HT.out, List.length_append] at hlen
              obtain ⟨a1, n1, c1, rfl⟩ : ∃ a n c, va' = .slice a n c := by obtain ⟨a, c, e, -⟩ := h5; exact ⟨a, _, c, e⟩
              obtain ⟨a2, c2, rfl⟩ : ∃ a c, vk' = .slice a d.k[k].k.length c := by obtain ⟨a, c, e, -⟩ := h6; exact ⟨a, c, e⟩
              clear h1 h2 h3 h4 h5 h6
              go_wp2_with (go_at_call 18; (with_reducible refine (BC.out _ ((Bl.refl _).alloc _)).mono ?_); rintro e w2 ⟨rfl, hb2⟩)
              go_roundw
              case rel => exact ⟨k + 1, by omega, by go_num, by rw [HT.out]; simp, hb.trans (((Bl.refl _).alloc _).trans hb2)⟩
              case measure => simp [intOf]; omega
            · have HT := Lib.hid (show d.k.take k = d.k from List.take_of_length_le (by omega))
              rw [HT.out]
              go_wp2
              go_ret
              refine ⟨?_, hbw⟩
              rw [HR.out]
              simp
/-- What Print answers. -/
def prX (d : Nd) : List UInt8 × Int := if ckX d = 0 then (wrX d, 0) else ([], ckX d)
set_option maxRecDepth 100000 in
set_option maxHeartbeats 4000000 in
theorem printX_c (d : Nd) (va vk : Value) (P : Nat → Prop) (w : World) (hN : wtN d ≤ 9000000) (hA : AtP w P va d.a) (hK : NdS w P vk d.k) :
    Calls Tryz.prog 7 #[.agg #[.string ⟨d.n.toArray⟩, va, .string ⟨d.x.toArray⟩, vk]] w fun e w' => e = .returned (.tuple #[.string ⟨(prX d).1.toArray⟩, .int .i64 (prX d).2]) ∧ Bl w w' := by
  have CC := Lib.hid (fun W (hb : Bl w W) => checkX_c d va vk P W hN (hA.still (Still.of_bl hb)) (hK.of_bl hb))
  have BC := Lib.hid (fun W (hb : Bl w W) => bytesX_c 9000001 d va vk P W (by omega) (by omega) (hA.still (Still.of_bl hb)) (hK.of_bl hb))
  obtain ⟨ao, ac, rfl, -⟩ := id hA
  obtain ⟨ko, kc, rfl, -⟩ := id hK
  have hP0 := nb_par w d.n d.x ao d.a.length ac ko d.k.length kc
  have hb0 := (Bl.refl w).alloc (.cells #[.string ⟨d.n.toArray⟩, .slice ao d.a.length ac, .string ⟨d.x.toArray⟩, .slice ko d.k.length kc] 25)
  clear hA hK
  by_cases hc : ckX d = 0
  · have HR := Lib.hid (show prX d = (wrX d, 0) by unfold prX; rw [if_pos hc])
    rw [hc] at CC
    clear hc
    go_enter Tryz.func7, Tryz.ntmps7
    go_wp2_with (first | (go_at_call 13; (with_reducible refine (CC.out _ hb0).mono ?_); rintro e w1 ⟨rfl, hb1⟩; obtain ⟨p0, p1, p2, p3, -⟩ := (hP0.of_bl hb1).cells) | (go_at_call 18; (with_reducible refine (BC.out _ (hb0.trans hb1)).mono ?_); rintro e w2 ⟨rfl, hb2⟩))
    go_ret2
    exact ⟨by rw [HR.out]; rfl, (hb0.trans hb1).trans hb2⟩
  · obtain ⟨q, hq⟩ : ∃ q, q = ckX d := ⟨_, rfl⟩
    have HR := Lib.hid (show prX d = ([], q) by unfold prX; rw [if_neg hc, hq])
    rw [← hq] at CC hc
    have hq2 : (q != 0) = true := by simpa using hc
    have hq3 : (q == 0) = false := by simpa using hc
    clear hc hq
    go_enter Tryz.func7, Tryz.ntmps7
    go_wp2_with (go_at_call 13; (with_reducible refine (CC.out _ hb0).mono ?_); rintro e w1 ⟨rfl, hb1⟩; obtain ⟨p0, p1, p2, p3, -⟩ := (hP0.of_bl hb1).cells)
    go_ret2
    exact ⟨by rw [HR.out]; rfl, hb0.trans hb1⟩
end Go.Proofs.YtkacjnifhmgeiaaGreatDoor

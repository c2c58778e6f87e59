/- Tokens: a tag that closes. -/
import Derived.Test.YtjclpmpphkmpdaaGreatDoorTokK
namespace Go.Proofs.YtjclpmpphkmpdaaGreatDoor
open Go.RowKit

theorem Rr.skip2 {w : World} {b K : Nat} {s t x : List UInt8} {c d : UInt8} {v : Value} (h : Rr w b s (c :: d :: t) x v) (hK : s.length - (c :: d :: t).length = K) : Rr (w.setCell ⟨b, 1, none⟩ (.int .i64 ((K : Int) + 2))) b s t x v := by
  have hl := h.len
  simp only [List.length_cons] at hl hK
  exact ⟨h.rk.seti (by omega), ((List.suffix_cons d t).trans (List.suffix_cons c _)).trans h.sf⟩
set_option maxRecDepth 100000 in
set_option maxHeartbeats 4000000 in
theorem tag_close (b : Nat) (s t x : List UInt8) (c d : UInt8) (l : List Tok) (w : World) (hR : RT w b s (c :: d :: t) x l) (hs : s.length ≤ 1073741824) (hx : x.length ≤ 1073741824) (hl : l.length ≤ 1073741823) (hE : ES w) (hbE : 1 < b) (hM : ML w) (hbM : 0 < b) :
    Calls Tryz.prog 71 #[.pointer (some ⟨b, 0, none⟩), .int .i64 3, .int .i64 2] w fun e w' =>
      StEnd w b s x l ((cutS [62] (t.dropWhile tch)).map fun u => if isNm (fold (t.takeWhile tch)) then (u, [], flsh x l ++ [(3, fold (t.takeWhile tch), [], [])]) else (u, x, l)) e w' := by
  obtain ⟨v, hR, hT⟩ := hR
  obtain ⟨i0, hi, hz0, hz1, hz2⟩ := info_parts Tryz.infoTok
  have hbw := hR.rk.lt
  obtain ⟨a0, a1, a2, a3, f0, f1, f2, f3⟩ := hR.rk.cells
  obtain ⟨K, hK⟩ : ∃ K, s.length - (c :: d :: t).length = K := ⟨_, rfl⟩
  rw [hK] at a1
  have hlc := hR.len
  simp only [List.length_cons] at hlc
  have hKb : (K : Int) + 2 ≤ (s.length : Int) := by simp only [List.length_cons] at hK; omega
  have hR0 := hR.skip2 hK
  have hg0 := gb_set (b := b) (gb_refl _ w) 1 (.int .i64 ((K : Int) + 2))
  have P1 := Lib.hid (pass_r _ tch do_t1 b s t x v _ hR0 (by omega))
  have hnl : (t.takeWhile tch).length ≤ t.length := (List.takeWhile_prefix _).length_le
  have FC := Lib.hid (fun W => folded_c (t.takeWhile tch) (by omega) W)
  obtain ⟨n, hn⟩ : ∃ n, n = fold (t.takeWhile tch) := ⟨_, rfl⟩
  have hn20 : n.length ≤ s.length := by rw [hn, fold_len]; omega
  have NC := Lib.hid (fun W => name_c n (by omega) W)
  rw [← hn] at FC ⊢
  clear hK hn
  cases hat : cutS [62] (t.dropWhile tch) with
  | none =>
    have TC := Lib.hid (fun W h1 h2 => to_no [62] (by simp) (by simp) 0 (by omega) b s (t.dropWhile tch) x v W h1 (by omega) h2 (by simpa using hat))
    clear hat
    go_enter Tryz.func71, Tryz.ntmps71
    go_wp2_with (first | (go_at_call 68; (with_reducible refine P1.out.mono ?_); clear P1; rintro e w1 ⟨rfl, hR1, hg1⟩) | (go_at_call 81; (with_reducible refine (FC.out _).mono ?_); rintro e w2 ⟨rfl, hb2⟩; have hR2 := hR1.of_bl hb2; have hE2 := ((hE.of_gb hg0 hbE).of_gb hg1 hbE).of_bl hb2; have hM2 := ((hM.of_gb hg0 hbM).of_gb hg1 hbM).of_bl hb2) | (go_at_call 72; refine (TC.out _ (hR2.of_bl ((Bl.refl _).alloc _)) (hM2.of_bl ((Bl.refl _).alloc _))).mono ?_; rintro e w3 ⟨rfl, hq3⟩))
    all_goals have hgz := gb_trans (gb_trans hg0 hg1) (gb_trans (gb_bl (b := some b) (hb2.alloc _)) (gb_qt hq3))
    all_goals exact ⟨rfl, below_gb hgz (Nat.le_refl _) (Nat.le_of_lt hbw), FrT.of_gb hgz, rfl, _, v, (hR2.of_bl ((Bl.refl _).alloc _)).of_bl hq3.bl, hT.of_gb hgz (Nat.lt_succ_self _)⟩
  | some u =>
    have TC := Lib.hid (fun W h1 h2 => to_yes [62] (by simp) (by simp) 0 (by omega) b s (t.dropWhile tch) x u v W h1 (by omega) h2 (by simpa using hat))
    clear hat
    cases hN : isNm n
    · rw [hN] at NC
      clear hN
      go_enter Tryz.func71, Tryz.ntmps71
      go_wp2_with (first | (go_at_call 68; (with_reducible refine P1.out.mono ?_); clear P1; rintro e w1 ⟨rfl, hR1, hg1⟩) | (go_at_call 81; (with_reducible refine (FC.out _).mono ?_); rintro e w2 ⟨rfl, hb2⟩; have hR2 := hR1.of_bl hb2; have hE2 := ((hE.of_gb hg0 hbE).of_gb hg1 hbE).of_bl hb2; have hM2 := ((hM.of_gb hg0 hbM).of_gb hg1 hbM).of_bl hb2) | (go_at_call 72; refine (TC.out _ (hR2.of_bl ((Bl.refl _).alloc _)) (hM2.of_bl ((Bl.refl _).alloc _))).mono ?_; rintro e w3 ⟨rfl, hR4, hg3⟩; have hbq : b < w2.heap.size := hR2.rk.lt; have hq4 := (show Tkb (w2.alloc (.cells #[.int .i64 3, .string ⟨n.toArray⟩, .slice none 0 0, .string ⟨#[]⟩] 41)) w2.heap.size 3 n (.slice none 0 0) from heap_alloc_new _ _).of_gb hg3 (by simp; omega); obtain ⟨z0, z1, z2, z3, z4, z5, z6, z7⟩ := hq4.cells; have hg4 := gb_trans (gb_trans hg0 hg1) (gb_trans (gb_bl (b := some b) (hb2.alloc _)) hg3); have hT4 := hT.of_gb hg4 (Nat.lt_succ_self _); have hE4 := hE.of_gb hg4 hbE) | (go_at_call 43; (with_reducible refine (NC.out _).mono ?_); rintro e w4 ⟨rfl, rfl⟩))
      go_end0
      exact ⟨below_gb hg4 (Nat.le_refl _) (Nat.le_of_lt hbw), FrT.of_gb hg4, rfl, v, hR4, hT4⟩
    · rw [hN] at NC
      clear hN
      have hvlt := hT.lt
      have KC := Lib.hid (fun W h1 h2 h3 => flush_c b s u x l v W h1 h2 hx (by omega) h3)
      go_enter Tryz.func71, Tryz.ntmps71
      go_wp2_with (first | (go_at_call 68; (with_reducible refine P1.out.mono ?_); clear P1; rintro e w1 ⟨rfl, hR1, hg1⟩) | (go_at_call 81; (with_reducible refine (FC.out _).mono ?_); rintro e w2 ⟨rfl, hb2⟩; have hR2 := hR1.of_bl hb2; have hE2 := ((hE.of_gb hg0 hbE).of_gb hg1 hbE).of_bl hb2; have hM2 := ((hM.of_gb hg0 hbM).of_gb hg1 hbM).of_bl hb2) | (go_at_call 72; refine (TC.out _ (hR2.of_bl ((Bl.refl _).alloc _)) (hM2.of_bl ((Bl.refl _).alloc _))).mono ?_; rintro e w3 ⟨rfl, hR4, hg3⟩; have hbq : b < w2.heap.size := hR2.rk.lt; have hq4 := (show Tkb (w2.alloc (.cells #[.int .i64 3, .string ⟨n.toArray⟩, .slice none 0 0, .string ⟨#[]⟩] 41)) w2.heap.size 3 n (.slice none 0 0) from heap_alloc_new _ _).of_gb hg3 (by simp; omega); obtain ⟨z0, z1, z2, z3, z4, z5, z6, z7⟩ := hq4.cells; have hg4 := gb_trans (gb_trans hg0 hg1) (gb_trans (gb_bl (b := some b) (hb2.alloc _)) hg3); have hT4 := hT.of_gb hg4 (Nat.lt_succ_self _); have hE4 := hE.of_gb hg4 hbE) | (go_at_call 43; (with_reducible refine (NC.out _).mono ?_); rintro e w4 ⟨rfl, rfl⟩) | (go_at_call 51; (with_reducible refine (KC.out _ hR4 hT4 hE4).mono ?_); clear a0 a1 a2 a3 f0 f1 f2 f3 z0 z1 z2 z3 z4 z5 z6 z7; rintro e w5 ⟨rfl, ⟨v5, hR5, hT5⟩, hF5⟩))
      have hwq : w.heap.size ≤ w2.heap.size := Nat.le_trans (gb_trans hg0 hg1).size (Below.size hb2)
      have hq5 := hq4.of_fr2 hF5 (Ne.symm (Nat.ne_of_lt hbq)) (fun e => by have := (hvlt _ e.symm).2; omega)
      obtain ⟨a0, a1, a2, a3, f0, f1, f2, f3⟩ := hR5.rk.cells
      obtain ⟨z0, z1, z2, z3, z4, z5, z6, z7⟩ := hq5.cells
      have hfl : (flsh x l).length ≤ l.length + 1 := by unfold flsh; split <;> simp
      have hl5 := hT5
      obtain ⟨ents, e1, e2, e3⟩ := hl5
      have hel : ents.length ≤ (flsh x l).length := by rw [← e1]; simp
      have hbw5 := hR5.rk.lt
      have hq5l := hq5.lt
      have hB5 := hF5.below (fun j hj => by have := (hvlt j hj).1; omega) (Nat.le_of_lt hR4.rk.lt)
      go_region_law (refine step_append_own rfl (.tmp 36) (.tmp 38) 22 rfl (b + 1) 41 i0 (.agg #[.int .i64 0, .string ⟨#[]⟩, .slice none 0 0, .string ⟨#[]⟩]) 4 64 Tryz.underlying22 hi hz0 hz1 hz2 rfl (by decide) v5 ents.length (tkC ents) (by simp [Act.eval]) (own_bl e2 (by repeat (first | exact Bl.refl _ | refine Bl.drew ?_ | refine Bl.alloc ?_ _))) ⟨w5.heap.size, 0, none⟩ 1 1 [.int .i64 3, .string ⟨n.toArray⟩, .slice none 0 0, .string ⟨#[]⟩] (by simp [Act.eval]) rfl (new_cells w5 #[.int .i64 3, .string ⟨n.toArray⟩, .slice none 0 0, .string ⟨#[]⟩] _) (by simp [Value.oneCell']) (by unfold maxLen; omega) (by omega) (by simp; omega) ?_; intro v' wz hown' hgrow; obtain ⟨gv, cv, rfl⟩ := own_shape hown'; obtain ⟨mz1, mz2, mz3, mz4⟩ := tok_meet (t := (3, n, [], [])) hR5 e1 e2 e3 (AtO.nil _ _) hown' hgrow (by repeat (first | exact Bl.refl _ | refine Bl.drew ?_ | refine Bl.alloc ?_ _)); clear hown' hgrow a0 a1 a2 a3 f0 f1 f2 f3; obtain ⟨a0, a1, a2, a3, f0, f1, f2, f3⟩ := mz2.rk.cells)
      all_goals
        go_wp2
        go_end0
        exact ⟨((below_gb (b := b) hg4 (Nat.le_refl _) (Nat.le_of_lt hbw)).trans hB5).trans (mz3.setCell (Nat.le_refl _) _), (((FrT.of_gb hg4).trans (FrT.of_fr2 hT4 hF5)).trans mz4).trans (FrT.of_gb (gb_set (gb_refl _ _) _ _)), rfl, _, ⟨mz2.rk.set3 _, mz2.sf⟩, mz1.of_gb (gb_set (gb_refl _ _) _ _) (Nat.lt_succ_self _)⟩
end Go.Proofs.YtjclpmpphkmpdaaGreatDoor

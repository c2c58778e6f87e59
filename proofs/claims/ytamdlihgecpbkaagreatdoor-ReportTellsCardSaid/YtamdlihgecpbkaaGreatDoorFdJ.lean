/- Words: the reference: spaced. -/
import Derived.Test.YtamdlihgecpbkaaGreatDoorGrpS
import Derived.Test.YtamdlihgecpbkaaGreatDoorGrpR
import Derived.Test.YtamdlihgecpbkaaGreatDoorGrpV
import Derived.Test.YtamdlihgecpbkaaGreatDoorTreRa
set_option maxRecDepth 100000
set_option maxHeartbeats 4000000
namespace Go.Proofs.YtamdlihgecpbkaaGreatDoor
open Go.RowKit
theorem spL_app (l m : List Nd) : spL (l ++ m) = spL l ++ spL m := by
 induction l with
 | nil => rfl
 | cons d l ih => simp only [List.cons_append, spL, ih, List.append_assoc]
theorem spL_take (l : List Nd) (k : Nat) (h : k < l.length) : spL (l.take (k + 1)) = spL (l.take k) ++ spN l[k] := by
 rw [take_snoc l k h, spL_app]; simp [spL]
theorem spN_mk (d : Nd) : spN d = if d.n = [] then d.x else if emptyN d.n = true then [32] else if apN d.n = true then [32] ++ spL d.k ++ [32] else spL d.k := by
 cases d with
 | mk n a x k => rw [spN]; rfl
theorem spN_le (d : Nd) : (spN d).length ≤ d.x.length + 2 + (spL d.k).length := by
 rw [spN_mk]; by_cases h : d.n = []
 · rw [if_pos h]; omega
 · rw [if_neg h]; by_cases h2 : emptyN d.n = true
   · rw [if_pos h2]; simp; omega
   · rw [if_neg h2]; by_cases h3 : apN d.n = true
     · rw [if_pos h3]; simp; omega
     · rw [if_neg h3]; omega
theorem spL_wt (l : List Nd) : (spL l).length ≤ 2 * wtL l := by
 induction l using Nd.ind with
 | h0 => simp [spL]
 | h1 n a x k l ik il =>
   have h3 := spN_le (.mk n a x k); simp only [Nd.x, Nd.k] at h3; simp only [spL, wtL, wtN, List.length_append]; omega
theorem apartR_c (n : Nm) (v : Value) (w : World) (h : StS w v apL) : Calls Tryz.prog 66 #[.string ⟨n.toArray⟩, v] w fun e w' => e = .returned (.bool (apN n)) ∧ w = w' :=
 inWords_c apL v n (by decide) w h
theorem spacedR_c (N : Nat) : ∀ (l : List Nd) (v : Value) (P : Nat → Prop) (w : World), wtL l < N → N ≤ 10000000 → NdS w P v l →
 Calls Tryz.prog 34 #[v] w fun e w' => e = .returned (.string ⟨(spL l).toArray⟩) ∧ Bl w w' := by
 induction N with
 | zero => intro l v P w h; omega
 | succ N ih =>
   intro l v P w hN hN2 hA; obtain ⟨ao, cap, rfl, hcap, hA⟩ := hA.get; have hll := cnt_len l; have hlc := wt_cnt l; have hsw := spL_wt l; have hl9 : l.length ≤ 10000001 := by omega
   have IH := Lib.hid ih; have HA := Lib.hid hA; have HN := Lib.hid hN; clear ih hA hN; go_enter Tryz.func34, Tryz.ntmps34; go_wp2; go_loopw [3, 4] (fun u i wr => ∃ k : Nat, k ≤ l.length ∧ i = .int .i64 k ∧ u = .string ⟨(spL (l.take k)).toArray⟩ ∧ Bl w wr) (fun _ i _ => l.length - (intOf i).toNat); case atStart => exact ⟨0, Nat.zero_le _, rfl, rfl, Bl.refl _⟩
   case round =>
    obtain ⟨k, hk, rfl, rfl, hb⟩ := hrel; by_cases hlt : k < l.length
    · obtain ⟨g, o, va, vk, rfl, hg, -, h1, h2, h3, h4, h5, h6⟩ := HA.out k hlt; have y1 := (hb.cells.1 g _ hg).trans h1; have y2 := (hb.cells.1 g _ hg).trans h2; have y3 := (hb.cells.1 g _ hg).trans h3; have y4 := (hb.cells.1 g _ hg).trans h4; have hgr : g < wr.heap.size := Nat.lt_of_lt_of_le hg (Below.size hb); have HT := Lib.hid (show spL (l.take (k + 1)) = spL (l.take k) ++ spN l[k] from spL_take l k hlt); have HM := Lib.hid (spN_mk l[k]); have hwk : wtL l[k].k < N := by have := wt_get l k hlt; have := HN.out; omega
      have KC := Lib.hid (fun W (hbW : Bl w W) => IH.out l[k].k vk P W hwk (by omega) (h6.of_bl hbW)); have EC := Lib.hid (fun W => isEmptyR_c l[k].n W); have WC := Lib.hid (fun W h => apartR_c l[k].n (.slice (some ⟨wr.heap.size + 1, 0, none⟩) 5 5) W h); have HS := Lib.hid (fun o => (show StS ((wr.alloc o).alloc (.cells (strA apL) 9)) (.slice (some ⟨wr.heap.size + 1, 0, none⟩) 5 5) apL from by have h := sts_new (wr.alloc o) apL 9 5 (by decide); rw [show (wr.alloc o).heap.size = wr.heap.size + 1 by simp] at h; exact h)); have hsb := spL_wt (l.take k); have hsk := spL_wt l[k].k; obtain ⟨ya, hya⟩ : ∃ y, y = spL (l.take k) := ⟨_, rfl⟩; obtain ⟨yk, hyk⟩ : ∃ y, y = spL l[k].k := ⟨_, rfl⟩; have hyl : ya.length + yk.length ≤ 100000000 := by
       have := HN.out; have h7 : spL l = spL (l.take (k + 1)) ++ spL (l.drop (k + 1)) := by rw [← spL_app, List.take_append_drop]
       have h8 : ya.length ≤ (spL l).length := by rw [h7, spL_take l k hlt, ← hya]; simp only [List.length_append]; omega
       rw [← hyk] at hsk; omega
      have hyx : ya.length + l[k].x.length ≤ 100000000 := by
       have := HN.out; have := wt_get l k hlt; rw [← hya] at hsb; have h7 : spL l = spL (l.take (k + 1)) ++ spL (l.drop (k + 1)) := by rw [← spL_app, List.take_append_drop]
       have h8 : ya.length ≤ (spL l).length := by rw [h7, spL_take l k hlt, ← hya]; simp only [List.length_append]; omega
       omega
      rw [← hya] at HT ⊢; rw [← hyk] at KC HM; obtain ⟨a1, n1, c1, rfl⟩ : ∃ a n c, va = .slice a n c := by obtain ⟨a, c, e, -⟩ := h5; exact ⟨a, _, c, e⟩
      obtain ⟨a2, c2, rfl⟩ : ∃ a c, vk = .slice a l[k].k.length c := by obtain ⟨a, c, e, -⟩ := h6; exact ⟨a, c, e⟩
      clear h1 h2 h3 h4 h5 h6 hsb hsk hya hyk hsw; by_cases hn : l[k].n = []
      · have HR := Lib.hid (show spN l[k] = l[k].x by rw [HM.out, if_pos hn]); rw [hn] at y1; clear hn HM EC WC KC; go_wp2; go_roundw; case rel => exact ⟨k + 1, by omega, by go_num, by rw [HT.out, HR.out], hb.alloc _⟩
        case measure => simp [intOf]; omega
      · have hne := emp hn; cases he : emptyN l[k].n
        · rw [he] at EC; cases hap : apN l[k].n
          · have HR := Lib.hid (show spN l[k] = yk by rw [HM.out, if_neg hn, if_neg (by rw [he]; simp), if_neg (by rw [hap]; simp)]); rw [hap] at WC; clear hn HM he hap; go_wp2_with (first | (go_at_call 65; (with_reducible refine (EC.out _).mono ?_); rintro e w6 ⟨rfl, rfl⟩) | (go_at_call 66; (with_reducible refine (WC.out _ ?_).mono ?_); (exact HS.out _); rintro e w7 ⟨rfl, rfl⟩) | (go_at_call 34; (with_reducible refine (KC.out _ (Bl.trans hb (by repeat (first | exact Bl.refl _ | refine Bl.alloc ?_ _)))).mono ?_); rintro e w8 ⟨rfl, hb8⟩)); go_roundw; case rel => exact ⟨k + 1, by omega, by go_num, by rw [HT.out, HR.out], (Bl.trans hb (((Bl.refl _).alloc _).alloc _)).trans hb8⟩
            case measure => simp [intOf]; omega
          · have HR := Lib.hid (show spN l[k] = [32] ++ yk ++ [32] by rw [HM.out, if_neg hn, if_neg (by rw [he]; simp), if_pos hap]); rw [hap] at WC; clear hn HM he hap; go_wp2_with (first | (go_at_call 65; (with_reducible refine (EC.out _).mono ?_); rintro e w6 ⟨rfl, rfl⟩) | (go_at_call 66; (with_reducible refine (WC.out _ ?_).mono ?_); (exact HS.out _); rintro e w7 ⟨rfl, rfl⟩) | (go_at_call 34; (with_reducible refine (KC.out _ (Bl.trans hb (by repeat (first | exact Bl.refl _ | refine Bl.alloc ?_ _)))).mono ?_); rintro e w8 ⟨rfl, hb8⟩)); go_roundw; case rel => exact ⟨k + 1, by omega, by go_num, by rw [HT.out, HR.out]; simp, (Bl.trans hb (((Bl.refl _).alloc _).alloc _)).trans hb8⟩
            case measure => simp [intOf]; omega
        · have HR := Lib.hid (show spN l[k] = [32] by rw [HM.out, if_neg hn, if_pos he]); rw [he] at EC; clear hn HM WC KC he; go_wp2_with (first | (go_at_call 65; (with_reducible refine (EC.out _).mono ?_); rintro e w6 ⟨rfl, rfl⟩)); go_roundw; case rel => exact ⟨k + 1, by omega, by go_num, by rw [HT.out, HR.out], hb.alloc _⟩
          case measure => simp [intOf]; omega
    · have HE := Lib.hid (show l.take k = l from List.take_of_length_le (by omega)); go_wp2; go_ret; exact ⟨by rw [HE.out]; rfl, hb⟩
end Go.Proofs.YtamdlihgecpbkaaGreatDoor

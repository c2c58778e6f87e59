/- Tokens: the reference: AttrBytes, TokenBytes. -/
import Derived.Test.YtamdlihgecpbkaaGreatDoorTokBy
set_option maxRecDepth 100000
set_option maxHeartbeats 4000000
namespace Go.Proofs.YtamdlihgecpbkaaGreatDoor
open Go.RowKit
theorem szT_lb (l : List Tok) : l.length ≤ szT l := by
 induction l with
 | nil => simp
 | cons t l ih => simp only [szT, List.map_cons, List.sum_cons, List.length_cons] at *; omega
theorem attrBytes_c (l : List Atr) (v : Value) (hz : szA l ≤ 1099511627776) (w : World) (hA : AtS w v l) :
 Calls Tryz.prog 99 #[v] w fun e w' => e = .returned (.string ⟨(atW l).toArray⟩) ∧ Bl w w' := by
 have hl := szA_len l; obtain ⟨ao, c, rfl, hA⟩ := hA; go_enter Tryz.func99, Tryz.ntmps99; go_wp2; go_loopw [3, 4] (fun s i wr => ∃ k : Nat, k ≤ l.length ∧ i = .int .i64 k ∧ s = .string ⟨(atW (l.take k)).toArray⟩ ∧ Bl w wr) (fun _ i _ => l.length - (intOf i).toNat); case atStart => exact ⟨0, Nat.zero_le _, rfl, rfl, Bl.refl _⟩
 case round =>
  obtain ⟨k, hk, rfl, rfl, hbl⟩ := hrel; by_cases hlt : k < l.length
  · obtain ⟨g, o, rfl, hg, h1, h2⟩ := hA k hlt; have y1 := (hbl.cells.1 g _ hg).trans h1; have y2 := (hbl.cells.1 g _ hg).trans h2; have HT := Lib.hid (show atW (l.take (k + 1)) = atW (l.take k) ++ atWl l[k] by rw [take_snoc l k hlt, atW_snoc]); have z1 := atW_len (l.take (k + 1)); have z2 := szA_take l (k + 1); rw [HT.out, List.length_append] at z1; have z3 : (atWl l[k]).length = l[k].1.length + (PutL l[k].2).length + 4 := by simp [atWl]; omega
    obtain ⟨y, hy⟩ : ∃ y, y = atW (l.take k) := ⟨_, rfl⟩; rw [← hy] at HT z1 ⊢; have hgr : g < wr.heap.size := Nat.lt_of_lt_of_le hg (Below.size hbl); have z4 := szA_get l k hlt; have z5 := PutL_len l[k].2; have PC := Lib.hid (fun W => putOf_c l[k].2 (by omega) W); clear h1 h2 hA hy; go_wp2; go_region_with (go_at_call 17; (with_reducible refine (PC.out _).mono ?_); rintro e w7 ⟨rfl, rfl⟩); all_goals
     go_wp2; go_roundw; case rel => exact ⟨k + 1, by omega, by go_num, by rw [HT.out]; simp [atWl], by first | exact hbl | exact hbl.drew | exact hbl.drewN _⟩
     case measure => simp [intOf]; omega
  · go_wp2; go_ret; exact ⟨by rw [List.take_of_length_le (by omega)]; rfl, hbl⟩
theorem tokenBytes_c (l : List Tok) (v : Value) (hz : szT l ≤ 1099511627776) (hk3 : ∀ t ∈ l, t.1 = 1 ∨ t.1 = 2 ∨ t.1 = 3) (w : World) (hA : TkS w v l) :
 Calls Tryz.prog 63 #[v] w fun e w' => e = .returned (.string ⟨(tksW l).toArray⟩) ∧ Bl w w' := by
 have hl := szT_lb l; obtain ⟨ao, c, rfl, hA⟩ := hA; have HK3 := Lib.hid hk3; clear hk3; go_enter Tryz.func63, Tryz.ntmps63; go_wp2; go_loopw [3, 4] (fun s i wr => ∃ k : Nat, k ≤ l.length ∧ i = .int .i64 k ∧ s = .string ⟨(tksW (l.take k)).toArray⟩ ∧ Bl w wr) (fun _ i _ => l.length - (intOf i).toNat); case atStart => exact ⟨0, Nat.zero_le _, rfl, rfl, Bl.refl _⟩
 case round =>
  obtain ⟨k, hk, rfl, rfl, hbl⟩ := hrel; by_cases hlt : k < l.length
  · obtain ⟨g, o, va, rfl, hg, h1, h2, h3, h4, h5, h6⟩ := hA k hlt; have y1 := (hbl.cells.1 g _ hg).trans h1; have y2 := (hbl.cells.1 g _ hg).trans h2; have y3 := (hbl.cells.1 g _ hg).trans h3; have y4 := (hbl.cells.1 g _ hg).trans h4; have hgr : g < wr.heap.size := Nat.lt_of_lt_of_le hg (Below.size hbl); have z1 := tksW_len (l.take k); have z2 := szT_take l k; have z3 := szT_get l k hlt; have z4 := PutL_len l[k].2.2.2; have z5 := atW_len l[k].2.2.1; have HT := Lib.hid (show tksW (l.take (k + 1)) = tksW (l.take k) ++ tkW l[k] by rw [take_snoc l k hlt, tksW_snoc]); obtain ⟨y, hy⟩ : ∃ y, y = tksW (l.take k) := ⟨_, rfl⟩; rw [← hy] at HT z1 ⊢; clear h1 h2 h3 h4 hA hy; rcases HK3.out l[k] (List.getElem_mem hlt) with hkk | hkk | hkk
    · rw [hkk] at y1; have HW := Lib.hid (show tkW l[k] = PutL l[k].2.2.2 by unfold tkW; rw [if_pos hkk]); have PC := Lib.hid (fun W => putOf_c l[k].2.2.2 (by omega) W); clear hkk; go_wp2_with (go_at_call 17; (with_reducible refine (PC.out _).mono ?_); rintro e w7 ⟨rfl, rfl⟩); go_roundw; case rel => exact ⟨k + 1, by omega, by go_num, by rw [HT.out, HW.out], hbl⟩
      case measure => simp [intOf]; omega
    · rw [hkk] at y1; have HW := Lib.hid (show tkW l[k] = 60 :: l[k].2.1 ++ atW l[k].2.2.1 ++ [62] by unfold tkW; rw [if_neg (by omega), if_pos hkk]); have RC := Lib.hid (fun W (hb : Bl wr W) => attrBytes_c l[k].2.2.1 va (by omega) W ((h5.of_bl hbl).of_bl hb)); clear hkk; go_wp2; go_region_with (go_at_call 99; (with_reducible refine (RC.out _ (by first | exact Bl.refl _ | exact (Bl.refl _).drew | exact (Bl.refl _).drewN _)).mono ?_); rintro e w7 ⟨rfl, hb7⟩; have y21 := (hb7.cells.1 g _ hgr).trans y2); all_goals
       go_wp2; go_roundw; case rel => exact ⟨k + 1, by omega, by go_num, by rw [HT.out, HW.out]; simp, by first | exact hbl.trans hb7 | exact (hbl.drew).trans hb7⟩
       case measure => simp [intOf]; omega
    · rw [hkk] at y1; have HW := Lib.hid (show tkW l[k] = [60, 47] ++ l[k].2.1 ++ [62] by unfold tkW; rw [if_neg (by omega), if_neg (by omega), if_pos hkk]); clear hkk; go_wp2; go_roundw; case rel => exact ⟨k + 1, by omega, by go_num, by rw [HT.out, HW.out]; simp, hbl⟩
      case measure => simp [intOf]; omega
  · go_wp2; go_ret; exact ⟨by rw [List.take_of_length_le (by omega)]; rfl, hbl⟩
end Go.Proofs.YtamdlihgecpbkaaGreatDoor

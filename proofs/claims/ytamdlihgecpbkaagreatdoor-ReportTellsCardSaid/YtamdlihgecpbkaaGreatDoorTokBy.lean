/- Tokens: Bytes, Print of the program. -/
import Derived.Test.YtamdlihgecpbkaaGreatDoorTokWr
set_option maxRecDepth 100000
set_option maxHeartbeats 4000000
namespace Go.Proofs.YtamdlihgecpbkaaGreatDoor
open Go.RowKit
def szT (l : List Tok) : Nat := (l.map fun t => t.2.1.length + szA t.2.2.1 + 6 * t.2.2.2.length + 5).sum
theorem tkW_len (t : Tok) : (tkW t).length ≤ t.2.1.length + szA t.2.2.1 + 6 * t.2.2.2.length + 5 := by
 have h1 := PutL_len t.2.2.2; have h2 := atW_len t.2.2.1; unfold tkW
 (repeat' split) <;> simp <;> omega
theorem tksW_len (l : List Tok) : (tksW l).length ≤ szT l := by
 induction l with
 | nil => simp [tksW, szT]
 | cons t l ih =>
   have := tkW_len t; simp only [tksW, List.flatMap_cons, szT, List.map_cons, List.sum_cons, List.length_append] at *; omega
theorem szT_take (l : List Tok) (k : Nat) : szT (l.take k) ≤ szT l := by
 induction l generalizing k with
 | nil => simp [szT]
 | cons a l ih =>
   cases k with
   | zero => simp [szT]
   | succ k => have := ih k; simp only [szT, List.take_succ_cons, List.map_cons, List.sum_cons] at *; omega
theorem szT_get (l : List Tok) (k : Nat) (h : k < l.length) : l[k].2.1.length + szA l[k].2.2.1 + 6 * l[k].2.2.2.length + 5 ≤ szT l := by
 induction l generalizing k with
 | nil => simp at h
 | cons a l ih =>
   cases k with
   | zero => simp [szT]
   | succ k => have := ih k (by simpa using h); simp only [szT, List.map_cons, List.sum_cons, List.getElem_cons_succ] at *; omega
theorem szA_len (l : List Atr) : l.length ≤ szA l := by
 induction l with
 | nil => simp
 | cons a l ih => simp only [szA, List.map_cons, List.sum_cons, List.length_cons] at *; omega
theorem new_kept4 {W W' : World} {x y z u : Value} {t : TypeId} {C : Prop} (hb : Bl (W.alloc (.cells #[x, y, z, u] t)).drew W') (k : W'.cell? ⟨W.heap.size, 0, none⟩ = some x → W'.cell? ⟨W.heap.size, 1, none⟩ = some y → W'.cell? ⟨W.heap.size, 2, none⟩ = some z → W'.cell? ⟨W.heap.size, 3, none⟩ = some u → C) : C := by
 have hlt : W.heap.size < (W.alloc (.cells #[x, y, z, u] t)).drew.heap.size := by simp
 refine k ?_ ?_ ?_ ?_
 · rw [hb.cells.1 _ 0 hlt]; simp
 · rw [hb.cells.1 _ 1 hlt]; simp
 · rw [hb.cells.1 _ 2 hlt]; simp
 · rw [hb.cells.1 _ 3 hlt]; simp
theorem bytes_c (l : List Tok) (v : Value) (hz : szT l ≤ 1099511627776) (hl : l.length ≤ 1099511627776) (hk3 : ∀ t ∈ l, t.1 = 1 ∨ t.1 = 2 ∨ t.1 = 3) (w : World) (hA : TkS w v l) :
 Calls Tryz.prog 91 #[v] w fun e w' => e = .returned (.string ⟨(tksW l).toArray⟩) ∧ Bl w w' := by
 obtain ⟨ao, c, rfl, hA⟩ := hA; have HK3 := Lib.hid hk3; clear hk3; go_enter Tryz.func91, Tryz.ntmps91; go_wp2; go_loopw [8] (fun i wr => ∃ k : Nat, k ≤ l.length ∧ i = .int .i64 k ∧ Bu w.heap.size w.heap.size (tksW (l.take k)) wr ∧ Bl w wr) (fun i _ => l.length - (intOf i).toNat); case atStart => exact ⟨0, Nat.zero_le _, rfl, Or.inl ⟨Nat.le_refl _, .slice none 0 0, heap_alloc_last _ _, ⟨rfl, Or.inl ⟨rfl, rfl⟩⟩, by simp [Value.ownBlock]⟩, (Bl.refl _).alloc _⟩
 case round =>
  obtain ⟨k, hk, rfl, hB, hbl⟩ := hrel; have hBs := Below.size hbl; by_cases hlt : k < l.length
  · obtain ⟨g, o, va, rfl, hg, h1, h2, h3, h4, h5, h6⟩ := hA k hlt; have y1 := (hbl.cells.1 g _ hg).trans h1; have y2 := (hbl.cells.1 g _ hg).trans h2; have y3 := (hbl.cells.1 g _ hg).trans h3; have y4 := (hbl.cells.1 g _ hg).trans h4; have hgr : g < wr.heap.size := Nat.lt_of_lt_of_le hg (Below.size hbl); obtain ⟨vo, vn, vc, rfl, -⟩ := h6; have z1 := tksW_len (l.take k); have z2 := szT_take l k; have z3 := szT_get l k hlt; have z4 := PutL_len l[k].2.2.2; have z5 := atW_len l[k].2.2.1; have z6 := szA_len l[k].2.2.1; have HT := Lib.hid (show tksW (l.take (k + 1)) = tksW (l.take k) ++ tkW l[k] by rw [take_snoc l k hlt, tksW_snoc]); obtain ⟨y, hy⟩ : ∃ y, y = tksW (l.take k) := ⟨_, rfl⟩; rw [← hy] at HT z1 hB; have hB0 := hB.of_bl ((Bl.refl wr).alloc (.cells #[.int .i64 l[k].1, .string ⟨l[k].2.1.toArray⟩, .slice vo vn vc, .string ⟨l[k].2.2.2.toArray⟩] 108)); clear h1 h2 h3 h4 hA hy; rcases HK3.out l[k] (List.getElem_mem hlt) with hkk | hkk | hkk
    · rw [hkk] at y1 hB0; have HW := Lib.hid (show tkW l[k] = PutL l[k].2.2.2 by unfold tkW; rw [if_pos hkk]); have PC := Lib.hid (fun W => told_c l[k].2.2.2 (by omega) W); have WC := Lib.hid (fun W h1 h2 => wr_c w.heap.size w.heap.size y (PutL l[k].2.2.2) W h1 (by omega) h2); clear hkk; go_wp2_with (first | (go_at_call 73; (with_reducible refine (PC.out _).mono ?_); rintro e w7 ⟨rfl, hb7⟩; have hB7 := hB0.of_bl hb7; have hbl7 := (hbl.alloc _).trans hb7; have hz7 := Below.size hbl7) | (go_at_call 75; (with_reducible refine (WC.out _ hB7 hz7).mono ?_); rintro e w8 ⟨rfl, hB8, hb8⟩)); all_goals
       go_roundw; case rel => exact ⟨k + 1, by omega, by go_num, by rw [HT.out, HW.out]; exact hB8, Below.trans hbl7 hb8⟩
       case measure => simp [intOf]; omega
    · rw [hkk] at y1 hB0; have HW := Lib.hid (show tkW l[k] = 60 :: l[k].2.1 ++ atW l[k].2.2.1 ++ [62] by unfold tkW; rw [if_neg (by omega), if_pos hkk]); have RC := Lib.hid (fun W (hb : Bl wr W) => written_c l[k].2.2.1 (.slice vo vn vc) (by omega) (by omega) W ((h5.of_bl hbl).of_bl hb)); have WC := Lib.hid (fun W h1 h2 => wr_c w.heap.size w.heap.size y (60 :: (l[k].2.1 ++ (atW l[k].2.2.1 ++ [62]))) W h1 (by simp only [List.length_cons, List.length_append, List.length_nil]; omega) h2); clear hkk; go_wp2; go_region_with (first | (go_at_call 134; (with_reducible refine (RC.out _ (((Bl.refl _).alloc _).drew)).mono ?_); rintro e w7 ⟨rfl, hb7⟩; refine new_kept4 hb7 ?_; intro x0 x1 x2 x3; have hB7 := (hB0.of_bl (b0_drew _)).of_bl hb7; have hbl7 := hbl.trans ((((Bl.refl wr).alloc _).drew).trans hb7); have hz7 := Below.size hbl7) | (go_at_call 75; (with_reducible refine (WC.out _ hB7 hz7).mono ?_); rintro e w8 ⟨rfl, hB8, hb8⟩)); all_goals
       go_wp2; go_roundw; case rel => exact ⟨k + 1, by omega, by go_num, by rw [HT.out, HW.out]; simpa using hB8, Below.trans hbl7 hb8⟩
       case measure => simp [intOf]; omega
    · rw [hkk] at y1 hB0; have HW := Lib.hid (show tkW l[k] = [60, 47] ++ l[k].2.1 ++ [62] by unfold tkW; rw [if_neg (by omega), if_neg (by omega), if_pos hkk]); have WC := Lib.hid (fun W h1 h2 => wr_c w.heap.size w.heap.size y (60 :: 47 :: (l[k].2.1 ++ [62])) W h1 (by simp only [List.length_cons, List.length_append, List.length_nil]; omega) h2); have hbl7 := hbl.alloc (.cells #[.int .i64 3, .string ⟨l[k].2.1.toArray⟩, .slice vo vn vc, .string ⟨l[k].2.2.2.toArray⟩] 108); have hz7 := Below.size hbl7; clear hkk; go_wp2_with (go_at_call 75; (with_reducible refine (WC.out _ hB0 hz7).mono ?_); rintro e w8 ⟨rfl, hB8, hb8⟩); all_goals
       go_roundw; case rel => exact ⟨k + 1, by omega, by go_num, by rw [HT.out, HW.out]; simpa using hB8, Below.trans hbl7 hb8⟩
       case measure => simp [intOf]; omega
  · have SC := Lib.hid (fun W h hW => str_c w.heap.size w.heap.size (tksW (l.take k)) W h hW); go_wp2_with (go_at_call 44; (with_reducible refine (SC.out _ hB hBs).mono ?_); rintro e w7 ⟨rfl, hb7⟩); go_ret; exact ⟨by rw [List.take_of_length_le (by omega)]; rfl, Below.trans hbl hb7⟩
end Go.Proofs.YtamdlihgecpbkaaGreatDoor

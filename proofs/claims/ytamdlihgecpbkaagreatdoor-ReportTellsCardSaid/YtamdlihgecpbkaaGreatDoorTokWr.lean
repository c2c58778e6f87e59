/- Tokens: Written, Bytes, Print of the program. -/
import Derived.Test.YtamdlihgecpbkaaGreatDoorGrpN
import Derived.Test.YtamdlihgecpbkaaGreatDoorGrpH
set_option maxRecDepth 100000
set_option maxHeartbeats 2000000
namespace Go.Proofs.YtamdlihgecpbkaaGreatDoor
open Go.RowKit
def atWl (a : Atr) : List UInt8 := 32 :: a.1 ++ [61, 34] ++ PutL a.2 ++ [34]
theorem atW_snoc (l : List Atr) (a : Atr) : atW (l ++ [a]) = atW l ++ atWl a := by simp [atW, atWl]
theorem tksW_snoc (l : List Tok) (t : Tok) : tksW (l ++ [t]) = tksW l ++ tkW t := by simp [tksW]
def szA (l : List Atr) : Nat := (l.map fun a => a.1.length + 6 * a.2.length + 4).sum
theorem atW_len (l : List Atr) : (atW l).length ≤ szA l := by
 induction l with
 | nil => simp [atW, szA]
 | cons a l ih =>
   have := PutL_len a.2; simp only [atW, List.flatMap_cons, szA, List.map_cons, List.sum_cons, List.length_append, List.length_cons, List.length_nil] at *; omega
theorem szA_take (l : List Atr) (k : Nat) : szA (l.take k) ≤ szA l := by
 induction l generalizing k with
 | nil => simp [szA]
 | cons a l ih =>
   cases k with
   | zero => simp [szA]
   | succ k => have := ih k; simp only [szA, List.take_succ_cons, List.map_cons, List.sum_cons] at *; omega
theorem told_c (l : List UInt8) (hl : l.length ≤ 1099511627776) (w : World) :
 Calls Tryz.prog 73 #[.string ⟨l.toArray⟩] w fun e w' => e = .returned (.string ⟨(PutL l).toArray⟩) ∧ Bl w w' := by
 have PC := Lib.hid (fun W => put_c l hl W); go_enter Tryz.func73, Tryz.ntmps73; go_wp2_with (go_at_call 71; (with_reducible refine (PC.out _).mono ?_); rintro e w7 ⟨rfl, hb7⟩); go_ret; exact ⟨rfl, hb7⟩
theorem szA_get (l : List Atr) (k : Nat) (h : k < l.length) : l[k].1.length + 6 * l[k].2.length + 4 ≤ szA l := by
 induction l generalizing k with
 | nil => simp at h
 | cons a l ih =>
   cases k with
   | zero => simp [szA]
   | succ k => have := ih k (by simpa using h); simp only [szA, List.map_cons, List.sum_cons, List.getElem_cons_succ] at *; omega
theorem written_c (l : List Atr) (v : Value) (hz : szA l ≤ 1099511627776) (hl : l.length ≤ 1099511627776) (w : World) (hA : AtS w v l) :
 Calls Tryz.prog 134 #[v] w fun e w' => e = .returned (.string ⟨(atW l).toArray⟩) ∧ Bl w w' := by
 obtain ⟨ao, c, rfl, hA⟩ := hA; go_enter Tryz.func134, Tryz.ntmps134; go_wp2; go_loopw [3, 8] (fun s i wr => ∃ k : Nat, k ≤ l.length ∧ i = .int .i64 k ∧ s = .string ⟨(atW (l.take k)).toArray⟩ ∧ Bl w wr) (fun _ i _ => l.length - (intOf i).toNat); case atStart => exact ⟨0, Nat.zero_le _, rfl, rfl, Bl.refl _⟩
 case round =>
  obtain ⟨k, hk, rfl, rfl, hbl⟩ := hrel; by_cases hlt : k < l.length
  · obtain ⟨g, o, rfl, hg, h1, h2⟩ := hA k hlt; have y1 := (hbl.cells.1 g _ hg).trans h1; have y2 := (hbl.cells.1 g _ hg).trans h2; have HT := Lib.hid (show atW (l.take (k + 1)) = atW (l.take k) ++ atWl l[k] by rw [take_snoc l k hlt, atW_snoc]); have z1 := atW_len (l.take (k + 1)); have z2 := szA_take l (k + 1); rw [HT.out, List.length_append] at z1; have z3 : (atWl l[k]).length = l[k].1.length + (PutL l[k].2).length + 4 := by simp [atWl]; omega
    obtain ⟨y, hy⟩ : ∃ y, y = atW (l.take k) := ⟨_, rfl⟩; rw [← hy] at HT z1 ⊢; have HY := Lib.hid hy; have hgr : g < wr.heap.size := Nat.lt_of_lt_of_le hg (Below.size hbl); have z4 := szA_get l k hlt; have z5 := PutL_len l[k].2; have PC := Lib.hid (fun W => told_c l[k].2 (by omega) W); clear h1 h2 hA hy; go_wp2; go_region_with (first | (go_at_call 73; (with_reducible refine (PC.out _).mono ?_); rintro e w7 ⟨rfl, hb7⟩; refine new_kept2 hb7 ?_; intro zl z0 z1 zf0 zf1)); all_goals
     go_wp2; go_roundw; case rel => exact ⟨k + 1, by omega, by go_num, by rw [HT.out]; simp [atWl], hbl.trans ((((Bl.refl wr).alloc _).drew).trans hb7)⟩
     case measure => simp [intOf]; omega
  · go_wp2; go_ret; exact ⟨by rw [List.take_of_length_le (by omega)]; rfl, hbl⟩
end Go.Proofs.YtamdlihgecpbkaaGreatDoor

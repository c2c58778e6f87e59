/- Tokens: the reference: AttrBytes, TokenBytes. -/
import Derived.Test.YtkacjnifhmgeiaaGreatDoorGrpN
namespace Go.Proofs.YtkacjnifhmgeiaaGreatDoor
open Go.RowKit

theorem szT_lb (l : List Tok) : l.length ≤ szT l := by
  induction l with
  | nil => simp
  | cons t l ih => simp only [szT, List.map_cons, List.sum_cons, List.length_cons] at *; omega
set_option maxRecDepth 100000 in
set_option maxHeartbeats 2000000 in
theorem attrBytes_c (l : List Atr) (v : Value) (hz : szA l ≤ 1099511627776) (w : World) (hA : AtS w v l) :
    Calls Tryz.prog 25 #[v] w fun e w' => e = .returned (.string ⟨(atW l).toArray⟩) ∧ Bl w w' := by
  have hl := szA_len l
  obtain ⟨ao, c, rfl, hA⟩ := hA
  go_enter Tryz.func25, Tryz.ntmps25
  go_wp2
  go_loopw [3, 4] (fun s i wr => ∃ k : Nat, k ≤ l.length ∧ i = .int .i64 k ∧ s = .string ⟨(atW (l.take k)).toArray⟩ ∧ Bl w wr) (fun _ i _ => l.length - (intOf i).toNat)
  case atStart => exact ⟨0, Nat.zero_le _, rfl, rfl, Bl.refl _⟩
  case round =>
    obtain ⟨k, hk, rfl, rfl, hbl⟩ := hrel
    by_cases hlt : k < l.length
    · obtain ⟨g, o, rfl, hg, h1, h2⟩ := hA k hlt
      have y1 := (hbl.cells.1 g _ hg).trans h1
      have y2 := (hbl.cells.1 g _ hg).trans h2
      have HT := Lib.hid (show atW (l.take (k + 1)) = atW (l.take k) ++ atWl l[k] by rw [take_snoc l k hlt, atW_snoc])
      have z1 := atW_len (l.take (k + 1))
      have z2 := szA_take l (k + 1)
      rw [HT.out, List.length_append] at z1
      have z3 : (atWl l[k]).length = l[k].1.length + (PutL l[k].2).length + 4 := by simp [atWl]; omega
      obtain ⟨y, hy⟩ : ∃ y, y = atW (l.take k) := ⟨_, rfl⟩
      rw [← hy] at HT z1 ⊢
      have hgr : g < wr.heap.size := Nat.lt_of_lt_of_le hg (Below.size hbl)
      have z4 := szA_get l k hlt
      have z5 := PutL_len l[k].2
      have PC := Lib.hid (fun W => putOf_c l[k].2 (by omega) W)
      clear h1 h2 hA hy
      go_wp2
      go_region_with (go_at_call 24; (with_reducible refine (PC.out _).mono ?_); rintro e w7 ⟨rfl, rfl⟩)
      all_goals
        go_wp2
        go_roundw
        case rel => exact ⟨k + 1, by omega, by go_num, by rw [HT.out]; simp [atWl], by first | exact hbl | exact hbl.drew | exact hbl.drewN _⟩
        case measure => simp [intOf]; omega
    · go_wp2
      go_ret
      exact ⟨by rw [List.take_of_length_le (by omega)]; rfl, hbl⟩
end Go.Proofs.YtkacjnifhmgeiaaGreatDoor

/- Shelves: was; slices.IndexFunc of entries, the function a method that is bound. -/
import Derived.Test.YthnpljkekhieiaaGreatDoorShAa
namespace Go.Proofs.YthnpljkekhieiaaGreatDoor
open Go.RowKit

set_option maxHeartbeats 1000000 in
theorem indexF_M (N : Nat) (p : Value) (hcf : ∀ (args : Array Value) (W : World), Sem.run Tryz.prog (callFunc N args) W = .ok (.enter N args) W) (n vc : Nat) (ao : Option Addr) (c0 c1 c2 c3 c4 : Nat → Value) (b : Nat → Bool) (hn : n ≤ 1099511627776) (w : World)
    (hA : ∀ i, i < n → ∃ g o, ao = some ⟨g, o, none⟩ ∧ g < w.heap.size ∧ w.cell? ⟨g, o + i * 5, none⟩ = some (c0 i) ∧ w.cell? ⟨g, o + i * 5 + 1, none⟩ = some (c1 i) ∧ w.cell? ⟨g, o + i * 5 + 2, none⟩ = some (c2 i) ∧ w.cell? ⟨g, o + i * 5 + 3, none⟩ = some (c3 i) ∧ w.cell? ⟨g, o + i * 5 + 4, none⟩ = some (c4 i))
    (hgo : ∀ i, i < n → ∀ W, Bl w W → Calls Tryz.prog N #[p, .agg #[c0 i, c1 i, c2 i, c3 i, c4 i]] W fun e w' => e = .returned (.bool (b i)) ∧ Bl W w') :
    Calls Tryz.prog 45 #[.slice ao n vc, .func (.func N) #[p] #[]] w fun e w' => e = .returned (.int .i64 (ixB b n)) ∧ Bl w w' := by
  have HD := Lib.hid hgo
  clear hgo
  go_enter Tryz.func45, Tryz.ntmps45
  go_wp2
  go_loopw [8] (fun i wr => ∃ k : Nat, k ≤ n ∧ i = .int .i64 k ∧ Hid (∀ j, j < k → b j = false) ∧ Bl w wr) (fun i _ => n - (intOf i).toNat)
  case atStart => exact ⟨0, Nat.zero_le _, rfl, Lib.hid (fun j h => by omega), Bl.refl _⟩
  case round =>
    obtain ⟨k, hk, rfl, HP, hbl⟩ := hrel
    by_cases hlt : k < n
    · obtain ⟨g, o, rfl, hg, h1, h2, h3, h4, h5⟩ := hA k hlt
      have x1 := (hbl.cells.1 g _ hg).trans h1
      have x2 := (hbl.cells.1 g _ hg).trans h2
      have x3 := (hbl.cells.1 g _ hg).trans h3
      have x4 := (hbl.cells.1 g _ hg).trans h4
      have x5 := (hbl.cells.1 g _ hg).trans h5
      have HG0 := HD.out k hlt wr hbl
      obtain ⟨d0, hd0⟩ : ∃ d, c0 k = d := ⟨_, rfl⟩
      obtain ⟨d1, hd1⟩ : ∃ d, c1 k = d := ⟨_, rfl⟩
      obtain ⟨d2, hd2⟩ : ∃ d, c2 k = d := ⟨_, rfl⟩
      obtain ⟨d3, hd3⟩ : ∃ d, c3 k = d := ⟨_, rfl⟩
      obtain ⟨d4, hd4⟩ : ∃ d, c4 k = d := ⟨_, rfl⟩
      rw [hd0] at x1
      rw [hd1] at x2
      rw [hd2] at x3
      rw [hd3] at x4
      rw [hd4] at x5
      rw [hd0, hd1, hd2, hd3, hd4] at HG0
      have HG := Lib.hid HG0
      clear HG0 h1 h2 h3 h4 h5 hA hd0 hd1 hd2 hd3 hd4
      cases hp : b k
      · have HF := Lib.hid hp
        rw [hp] at HG
        clear hp
        go_wp2_with (with_reducible refine HG.out.mono ?_; rintro e w' ⟨rfl, hb'⟩)
        go_roundw
        case rel =>
          refine ⟨k + 1, by omega, by go_num, Lib.hid (fun j hjk => ?_), hbl.trans hb'⟩
          by_cases e : j = k
          · subst e; exact HF.out
          · exact HP.out j (by omega)
        case measure => simp [intOf]; omega
      · have HF := Lib.hid hp
        rw [hp] at HG
        clear hp
        go_wp2_with (with_reducible refine HG.out.mono ?_; rintro e w' ⟨rfl, hb'⟩)
        go_ret
        exact ⟨ret_int (ixB_hit b n k hlt HF.out HP.out).symm, hbl.trans hb'⟩
    · go_wp2
      go_ret
      exact ⟨ret_int (ixB_miss b n (fun j hj => HP.out j (by omega))).symm, hbl⟩
set_option maxHeartbeats 2000000 in
theorem was_c (b : Nat) (ve vr : Value) (rd : List Nm) (x : Ent) (hl : rd.length ≤ 1000000) (w : World) (hb : w.heap[b]? = some (.cells #[ve, vr] 57)) (hR : StS w vr rd) :
    Calls Tryz.prog 29 #[.pointer (some ⟨b, 0, none⟩), enV x] w fun e w' => e = .returned (.bool (fnT rd (eI x))) ∧ Bl w w' := by
  have hB0 := B5.new w x 36
  have BC := Lib.hid (fun W (hh : Bl w W) => bst_c rd vr (eI x) hl W (hR.of_bl hh))
  obtain ⟨lb, k0', k1'⟩ := keep_cells (keep_bl hb ((Bl.refl _).alloc (enO x 36)))
  obtain ⟨ar, cr, rfl, -, -⟩ := hR
  unfold enO at hB0 k0' k1' lb
  unfold enV
  obtain ⟨l1, x0, x1, x2, x3, x4⟩ := hB0
  obtain ⟨B, hB⟩ : ∃ B, B = fnT rd (eI x) := ⟨_, rfl⟩
  rw [← hB] at BC ⊢
  clear hB
  go_enter Tryz.func29, Tryz.ntmps29
  go_wp2
  go_region_with (go_at_call 26; (with_reducible refine (BC.out _ (by repeat (first | exact Bl.refl _ | refine Bl.drew ?_ | refine Bl.drewN ?_ _ | refine Bl.alloc ?_ _))).mono ?_); rintro e w' ⟨rfl, nq, rfl⟩)
  all_goals
    go_wp2
    go_ret
    exact ⟨rfl, (by repeat (first | exact Bl.refl _ | refine Bl.drew ?_ | refine Bl.drewN ?_ _ | refine Bl.alloc ?_ _))⟩
end Go.Proofs.YthnpljkekhieiaaGreatDoor

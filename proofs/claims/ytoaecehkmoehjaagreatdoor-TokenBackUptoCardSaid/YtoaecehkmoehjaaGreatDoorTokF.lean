/- Tokens: small letters: Folded of the program, FoldOf of the reference. -/
import Derived.Test.YtoaecehkmoehjaaGreatDoorTokE
namespace Go.Proofs.YtoaecehkmoehjaaGreatDoor
open Go.RowKit

theorem fld_nat (c : UInt8) : (fld c).toNat = if 65 ≤ c.toNat ∧ c.toNat ≤ 90 then c.toNat + 32 else c.toNat := by
  unfold fld
  split
  · rename_i h
    rw [UInt8.toNat_add]
    simp only [show (32 : UInt8).toNat = 32 from rfl]
    omega
  · rfl
theorem fold_len (l : List UInt8) : (fold l).length = l.length := by simp [fold]
theorem conv_cap (W : World) (g cap : Nat) (l : List UInt8) (h : BA W g l) : (convert 61 9 (.slice (some ⟨g, 0, none⟩) l.length cap)).run Tryz.prog W = .ok (.string ⟨l.toArray⟩) W := by
  have h1 := run_convert_bytes_arg (P := Tryz.prog) W 61 5 Tryz.underlying61 Tryz.underlying5 g 0 l.length cap (l.map fun c => (c.toNat : Int)) (by simp) (fun i hi => by
    rw [Nat.zero_add, h i hi]
    simp [List.getD, hi]) 9 Tryz.underlying9
  have e : (l.map fun c => (c.toNat : Int)).map (fun n => UInt8.ofNat n.toNat) = l := by
    rw [List.map_map]
    exact (List.map_congr_left (fun c _ => by simp)).trans (List.map_id l)
  rw [h1, strOfNums, e]
/-- The first k bytes are small, the others as they were. -/
def FA (w : World) (g : Nat) (l : List UInt8) (k : Nat) : Prop := ∀ i, (h : i < l.length) → w.cell? ⟨g, i, none⟩ = some (.int .u8 ((if i < k then fld l[i] else l[i]).toNat : Int)) ∧ w.frozen? ⟨g, i, none⟩ = false
theorem FA.skip {w : World} {g k : Nat} {l : List UInt8} (h : FA w g l k) (hk : k < l.length) (hs : fld l[k] = l[k]) : FA w g l (k + 1) := by
  intro i hi
  refine ⟨?_, (h i hi).2⟩
  rw [(h i hi).1]
  by_cases e : i = k
  · subst e; simp [hs]
  · have : (i < k + 1) = (i < k) := by simp; omega
    simp only [this]
theorem FA.set {w : World} {g k : Nat} {l : List UInt8} (h : FA w g l k) (hk : k < l.length) {n : Int} (hn : n = ((fld l[k]).toNat : Int)) : FA (w.setCell ⟨g, k, none⟩ (.int .u8 n)) g l (k + 1) := by
  intro i hi
  by_cases e : i = k
  · subst e
    refine ⟨?_, by rw [World.frozen?_setCell]; exact (h i hi).2⟩
    rw [hn, World.cell?_setCell_same w _ _ (by rw [(h i hi).1])]
    simp
  · refine ⟨?_, by rw [World.frozen?_setCell]; exact (h i hi).2⟩
    rw [World.cell?_setCell_other w _ _ _ (by simp [e]), (h i hi).1]
    have : (i < k + 1) = (i < k) := by simp; omega
    simp only [this]

theorem FA_brow (w : World) (l : List UInt8) (cap : Nat) (t : TypeId) : FA (w.alloc (brow l cap t)) w.heap.size l 0 := by
  intro i hi
  refine ⟨by rw [BA_brow w l cap t i hi]; simp, ?_⟩
  unfold brow; rw [World.frozen?_alloc_mark]; simp [bytesRow]; omega
set_option maxHeartbeats 1000000 in
theorem folded_c (l : List UInt8) (hl : l.length ≤ 1099511627776) (w : World) :
    Calls Tryz.prog 81 #[.string ⟨l.toArray⟩] w fun e w' => e = .returned (.string ⟨(fold l).toArray⟩) ∧ Bl w w' := by
  have hcv := of_str
  have HCV := Lib.hid (conv_cap)
  go_enter Tryz.func81, Tryz.ntmps81
  go_wp2
  go_loopw [4, 5, 10] (fun _ _ i wr => ∃ k : Nat, k ≤ l.length ∧ i = .int .i64 k ∧ FA wr w.heap.size l k ∧ Below w.heap.size w wr) (fun _ _ i _ => l.length - (intOf i).toNat)
  case atStart => exact ⟨0, Nat.zero_le _, rfl, FA_brow w.drew l _ _, (Bl.refl _).drew.alloc _⟩
  case round =>
    obtain ⟨k, hk, rfl, hF, hbl⟩ := hrel
    by_cases hlt : k < l.length
    · have hc := u8_lt l[k]
      have hck := (hF k hlt).1
      simp only [Nat.lt_irrefl, if_false] at hck
      have hfk := (hF k hlt).2
      have hfn := fld_nat l[k]
      by_cases hu : 65 ≤ l[k].toNat ∧ l[k].toNat ≤ 90
      · rw [if_pos hu] at hfn
        have HU := Lib.hid hfn
        obtain ⟨u1, u2⟩ := hu
        have u1' : (65 : Int) ≤ (l[k].toNat : Int) := by omega
        have u2' : (l[k].toNat : Int) ≤ 90 := by omega
        clear hfn
        go_wp2
        go_roundw
        case rel => exact ⟨k + 1, by omega, by go_num, hF.set hlt (by rw [HU.out]; omega), Below.setCell hbl (Nat.le_refl _) _⟩
        case measure => simp [intOf]; omega
      · rw [if_neg hu] at hfn
        have HU := Lib.hid (UInt8.toNat_inj.1 hfn)
        have hu' : (decide ((65 : Int) ≤ (l[k].toNat : Int)) && decide ((l[k].toNat : Int) ≤ 90)) = false := by
          cases h : (decide ((65 : Int) ≤ (l[k].toNat : Int)) && decide ((l[k].toNat : Int) ≤ 90))
          · rfl
          · simp only [Bool.and_eq_true, decide_eq_true_eq] at h; omega
        have HU2 := Lib.hid hu
        clear hfn hu
        go_wp2
        all_goals first
          | (exfalso; have := HU2.out; omega)
          | (go_roundw
             case rel => exact ⟨k + 1, by omega, by go_num, hF.skip hlt HU.out, hbl⟩
             case measure => simp [intOf]; omega)
    · have hB : BA wr w.heap.size (fold l) := by
        intro i hi
        rw [fold_len] at hi
        rw [(hF i hi).1, if_pos (by omega)]
        simp [fold]
      have hcv2 := fun cap => conv_cap wr w.heap.size cap (fold l) hB
      rw [fold_len] at hcv2
      clear hcv
      go_wp2
      go_ret
      exact ⟨rfl, hbl⟩

def bcs (l : List UInt8) : List Value := l.map fun c => .int .u8 (c.toNat : Int)
theorem bcs_len (l : List UInt8) : (bcs l).length = l.length := by simp [bcs]
/-- What was laid in a new block stands there. -/
theorem new_cells (w : World) (c : Array Value) (e : TypeId) : ∀ j u, c.toList[j]? = some u → (w.alloc (.cells c e)).cell? ((⟨w.heap.size, 0, none⟩ : Addr).add j) = some u := by
  intro j u h
  have hadd : (⟨w.heap.size, 0, none⟩ : Addr).add j = ⟨w.heap.size, j, none⟩ := by unfold Addr.add; split <;> simp_all
  rw [hadd]
  simpa using h
theorem conv_own (W : World) (base : Nat) (v : Value) (l : List UInt8) (h : W.ownsRow base 5 1 v l.length (bcs l)) : (convert 61 9 v).run Tryz.prog W = .ok (.string ⟨l.toArray⟩) W := by
  rcases h.2 with ⟨rfl, h0⟩ | ⟨g, cap, cur, rfl, -, -, -⟩
  · obtain rfl := List.eq_nil_of_length_eq_zero h0
    have := run_convert_bytes_nil (P := Tryz.prog) W 61 5 Tryz.underlying61 Tryz.underlying5 0 0
    exact this _ Tryz.underlying9
  · refine conv_cap W g cap l (fun i hi => ?_)
    have := h.cells (g := g) rfl i (.int .u8 (l[i].toNat : Int)) (by simp [bcs, hi])
    by_cases e : i = 0
    · subst e; simpa [Addr.add] using this
    · simpa [Addr.add, e] using this
theorem Tryz.infoU8 : (Tryz.prog.info? 5).map (fun i => (i.zero, i.size, i.bytes)) = some (some (.int .u8 0), 1, 1) := by kernel_rfl
set_option maxHeartbeats 1000000 in
theorem foldOf_c (l : List UInt8) (hl : l.length ≤ 1099511627776) (w : World) :
    Calls Tryz.prog 28 #[.string ⟨l.toArray⟩] w fun e w' => e = .returned (.string ⟨(fold l).toArray⟩) ∧ Bl w w' := by
  obtain ⟨i0, hi, hz0, hz1, hz2⟩ := info_parts Tryz.infoU8
  go_enter Tryz.func28, Tryz.ntmps28
  go_wp2
  go_loopw [3, 4, 5] (fun v i _ wr => ∃ k : Nat, k ≤ l.length ∧ i = .int .i64 k ∧ wr.ownsRow w.heap.size 5 1 v (fold (l.take k)).length (bcs (fold (l.take k))) ∧ Below w.heap.size w wr) (fun _ i _ _ => l.length - (intOf i).toNat)
  case atStart => exact ⟨0, Nat.zero_le _, rfl, World.ownsRow_nil _ _ _ _, Bl.refl _⟩
  case round =>
    obtain ⟨k, hk, rfl, hown, hbl⟩ := hrel
    have hsz := Below.size hbl
    by_cases hlt : k < l.length
    · have hc := u8_lt l[k]
      have hfn := fld_nat l[k]
      have hkl : (fold (l.take k)).length = k := by simp [fold]; omega
      have HT := Lib.hid (show bcs (fold (l.take (k + 1))) = bcs (fold (l.take k)) ++ [.int .u8 ((fld l[k]).toNat : Int)] by rw [take_snoc l k hlt]; unfold bcs fold; rw [List.map_append, List.map_append]; rfl)
      have HL := Lib.hid (show (fold (l.take (k + 1))).length = k + 1 by simp [fold]; omega)
      rw [hkl] at hown
      clear hkl
      by_cases hu : 65 ≤ l[k].toNat ∧ l[k].toNat ≤ 90
      · rw [if_pos hu] at hfn
        have HU := Lib.hid hfn
        obtain ⟨u1, u2⟩ := hu
        have u1' : (65 : Int) ≤ (l[k].toNat : Int) := by omega
        have u2' : (l[k].toNat : Int) ≤ 90 := by omega
        clear hfn
        go_wp2_with (first | (go_at_call 20; refine (between_c _ _ _ _).mono ?_; rintro e w' ⟨rfl, rfl⟩) | (at_builtin; refine wpList_append_own _ rfl _ _ 61 rfl w.heap.size 5 i0 (.int .u8 0) 1 1 Tryz.underlying61 hi hz0 hz1 hz2 rfl (by decide) _ _ _ rfl (hown.alloc _) ⟨wr.heap.size, 0, none⟩ 1 1 [.int .u8 ((l[k].toNat : Int) + 32)] rfl rfl (new_cells wr #[.int .u8 ((l[k].toNat : Int) + 32)] _) (by simp [Value.oneCell']) (by unfold maxLen; omega) (by omega) (by simp; omega) ?_))
        · intro v' w1 hown' hgrow _
          have hB' := (hbl.alloc hsz _).grown hgrow (by simp; omega) (fun g hg => (hown.lt g hg).1)
          have hO : w1.ownsRow w.heap.size 5 1 v' (fold (l.take (k + 1))).length (bcs (fold (l.take (k + 1)))) := by
            rw [HL.out, HT.out, HU.out]; simpa using hown'
          clear hown' hgrow hown
          go_wp2
          go_roundw
          case rel => exact ⟨k + 1, by omega, by go_num, hO, hB'⟩
          case measure => simp [intOf]; omega
      · rw [if_neg hu] at hfn
        have HU := Lib.hid (UInt8.toNat_inj.1 hfn)
        have hu' : (decide ((65 : Int) ≤ (l[k].toNat : Int)) && decide ((l[k].toNat : Int) ≤ 90)) = false := by
          cases h : (decide ((65 : Int) ≤ (l[k].toNat : Int)) && decide ((l[k].toNat : Int) ≤ 90))
          · rfl
          · simp only [Bool.and_eq_true, decide_eq_true_eq] at h; omega
        have HU2 := Lib.hid hu
        clear hfn hu
        go_wp2_with (first | (go_at_call 20; refine (between_c _ _ _ _).mono ?_; rintro e w' ⟨rfl, rfl⟩) | (at_builtin; refine wpList_append_own _ rfl _ _ 61 rfl w.heap.size 5 i0 (.int .u8 0) 1 1 Tryz.underlying61 hi hz0 hz1 hz2 rfl (by decide) _ _ _ rfl (hown.alloc _) ⟨wr.heap.size, 0, none⟩ 1 1 [.int .u8 (l[k].toNat : Int)] rfl rfl (new_cells wr #[.int .u8 (l[k].toNat : Int)] _) (by simp [Value.oneCell']) (by unfold maxLen; omega) (by omega) (by simp; omega) ?_))
        all_goals first
          | (exfalso; have := HU2.out; omega)
          | skip
        · intro v' w1 hown' hgrow _
          have hB' := (hbl.alloc hsz _).grown hgrow (by simp; omega) (fun g hg => (hown.lt g hg).1)
          have hO : w1.ownsRow w.heap.size 5 1 v' (fold (l.take (k + 1))).length (bcs (fold (l.take (k + 1)))) := by
            rw [HL.out, HT.out, HU.out]; exact hown'
          clear hown' hgrow hown
          go_wp2
          go_roundw
          case rel => exact ⟨k + 1, by omega, by go_num, hO, hB'⟩
          case measure => simp [intOf]; omega
    · have HE := Lib.hid (show l.take k = l from List.take_of_length_le (by omega))
      rw [HE.out] at hown
      have hcv := fun v h => conv_own wr w.heap.size v (fold l) h
      have hcv2 := hcv _ hown
      clear hcv
      go_wp2
      go_ret
      exact ⟨rfl, hbl⟩
end Go.Proofs.YtoaecehkmoehjaaGreatDoor

/- Trees: the law TreeKeeps. -/
import Derived.Test.YtlhodanmccpkdaaGreatDoorTreX
import Derived.Test.YtlhodanmccpkdaaGreatDoorTreW
import Derived.Test.YtlhodanmccpkdaaGreatDoorGrpM
namespace Go.Proofs.YtlhodanmccpkdaaGreatDoor
open Go.RowKit

theorem szT_at (l : List Tok) : ∀ t ∈ l, t.2.2.1.length ≤ szT l := by
  intro t ht
  obtain ⟨i, hi, rfl⟩ := List.mem_iff_getElem.1 ht
  have h1 := szT_get l i hi
  have h2 := szA_len l[i].2.2.1
  omega
theorem txB_sz (l : List Tok) : txB l ≤ szT l := by
  induction l with
  | nil => simp [txB]
  | cons t l ih => rw [txB_cons]; simp only [szT, List.map_cons, List.sum_cons] at *; omega
theorem cnt_ofM (l : List Tok) : cntL (ofM l) ≤ l.length := by
  have h1 := fin_cnt (l.foldl stp ([], []))
  have h2 := foldl_cnt l ([], [])
  have h3 : cntS (([], []) : St) = 0 := rfl
  unfold ofM
  omega
def txts (l : List Tok) : List UInt8 := l.flatMap (·.2.2.2)
theorem txts_take (l : List Tok) (k : Nat) (h : k < l.length) : txts (l.take (k + 1)) = txts (l.take k) ++ l[k].2.2.2 := by
  unfold txts
  rw [take_snoc l k h, List.flatMap_append]
  simp only [List.flatMap_cons, List.flatMap_nil, List.append_nil]
theorem txts_le (l : List Tok) (k : Nat) : (txts (l.take k)).length ≤ txB l := by
  have h : txts l = txts (l.take k) ++ txts (l.drop k) := by unfold txts; rw [← List.flatMap_append, List.take_append_drop]
  show _ ≤ (txts l).length
  rw [h, List.length_append]; omega
set_option maxRecDepth 100000 in
set_option maxHeartbeats 4000000 in
theorem treeKeeps_c (l : List Tok) (v : Value) (hz : szT l ≤ 100000000) (w : World) (hE : ES w) (hM : ML w) (hl : TkS w v l) :
    Calls Tryz.prog 3 #[v] w fun e w' => e = .returned (.bool true) ∧ Bl w w' := by
  have BC := Lib.hid (build_c l v w hl (Sm_of l (by omega)) (by have := txB_sz l; omega) (fun t ht => by have := szT_at l t ht; omega))
  have GC := Lib.hid (fun W h m => treeBegun_c W h m)
  have hxB := txB_sz l
  have hlen := szT_len l
  by_cases h0 : ckE l = 0
  · have HB := Lib.hid (show bdT l = ofM l by unfold bdT; rw [if_pos h0])
    have HX := Lib.hid (txt_ofM l h0)
    have hxl : (ntxL (ofM l)).length ≤ 1099511627776 := by rw [HX.out]; show txB l ≤ _; omega
    have hcl := cnt_ofM l
    have TC := Lib.hid (fun v' Q W (h : NdS W Q v' (ofM l)) => textIn_c 1000000000 (ofM l) v' Q W (by omega) (by omega) hxl h)
    rw [show ntxL (ofM l) = txts l from HX.out] at TC
    rw [h0, HB.out] at BC
    obtain ⟨ao, cp, rfl, hA⟩ := hl
    have HA := Lib.hid hA
    clear hA h0 hxl hcl HX HB
    go_enter Tryz.func3, Tryz.ntmps3
    go_wp2_with (first | (go_at_call 6; (with_reducible refine BC.out.mono ?_); rintro e w1 ⟨v1, rfl, ⟨Q1, hN1⟩, hb1⟩; have hE1 := hE.of_bl hb1; have hM1 := hM.of_bl hb1) | (go_at_call 7; (with_reducible refine (GC.out _ hE1 hM1).mono ?_); rintro e w2 ⟨rfl, hb2⟩; have hN2 := hN1.of_bl hb2; have hb12 := hb1.trans hb2))
    go_loopw [5, 6] (fun s i wr => ∃ k : Nat, k ≤ l.length ∧ i = .int .i64 k ∧ s = .string ⟨(txts (l.take k)).toArray⟩ ∧ wr = w2) (fun _ i _ => l.length - (intOf i).toNat)
    case atStart => exact ⟨0, Nat.zero_le _, rfl, rfl, rfl⟩
    case round =>
      obtain ⟨k, hk, rfl, rfl, rfl⟩ := hrel
      by_cases hlt : k < l.length
      · obtain ⟨g, o, va, rfl, hg, h1, h2, h3, h4, -⟩ := HA.out k hlt
        have y4 := (hb12.cells.1 g _ hg).trans h4
        have hgr : g < wr.heap.size := Nat.lt_of_lt_of_le hg (Below.size hb12)
        have HT := Lib.hid (txts_take l k hlt)
        have z1 := txts_le l (k + 1)
        rw [HT.out, List.length_append] at z1
        clear h1 h2 h3 h4
        go_wp2
        go_roundw
        case rel => exact ⟨k + 1, by omega, by go_num, by rw [HT.out], trivial⟩
        case measure => simp [intOf]; omega
      · have HE := Lib.hid (show l.take k = l from List.take_of_length_le (by omega))
        rw [HE.out]
        go_wp2_with (go_at_call 8; (with_reducible refine (TC.out _ _ _ hN2).mono ?_); rintro e w3 ⟨rfl, hb3⟩)
        go_ret
        exact ⟨rfl, hb12.trans hb3.bl⟩
  · have HB := Lib.hid (show bdT l = [] by unfold bdT; rw [if_neg h0])
    rw [HB.out] at BC
    obtain ⟨q, hq⟩ : ∃ q, q = ckE l := ⟨_, rfl⟩
    rw [← hq] at h0 BC
    have hq2 : (q != 0) = true := by simpa using h0
    have hq3 : (q == 0) = false := by simpa using h0
    clear hq h0
    go_enter Tryz.func3, Tryz.ntmps3
    go_wp2_with (first | (go_at_call 6; (with_reducible refine BC.out.mono ?_); rintro e w1 ⟨v1, rfl, ⟨Q1, ⟨ao1, cp1, rfl, -⟩⟩, hb1⟩; have hE1 := hE.of_bl hb1; have hM1 := hM.of_bl hb1) | (go_at_call 7; (with_reducible refine (GC.out _ hE1 hM1).mono ?_); rintro e w2 ⟨rfl, hb2⟩))
    go_ret
    exact ⟨rfl, hb1.trans hb2⟩
end Go.Proofs.YtlhodanmccpkdaaGreatDoor

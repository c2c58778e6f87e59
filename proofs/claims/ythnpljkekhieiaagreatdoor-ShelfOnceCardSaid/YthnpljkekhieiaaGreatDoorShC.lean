/- Links: the scheme; may a link be followed? -/
import Derived.Test.YthnpljkekhieiaaGreatDoorGrpJ
namespace Go.Proofs.YthnpljkekhieiaaGreatDoor
open Go.RowKit

theorem okU_iff (k : Nat) (c : UInt8) : okU k c = true ↔ (97 ≤ (fld c).toNat ∧ (fld c).toNat ≤ 122) ∨ (k ≠ 0 ∧ ((48 ≤ (fld c).toNat ∧ (fld c).toNat ≤ 57) ∨ (fld c).toNat = 43 ∨ (fld c).toNat = 45 ∨ (fld c).toNat = 46)) := by
  have h := fld_nat c
  unfold okU ltr lwr
  simp only [Bool.or_eq_true, Bool.and_eq_true, decide_eq_true_eq]
  by_cases hu : 65 ≤ c.toNat ∧ c.toNat ≤ 90
  · rw [if_pos hu] at h; omega
  · rw [if_neg hu] at h; omega
theorem okUs_iff (s : List UInt8) : okUs s = true ↔ ∀ j (h : j < s.length), okU j s[j] = true := by
  unfold okUs
  rw [List.all_eq_true]
  constructor
  · intro h j hj
    have := h j (List.mem_range.2 hj)
    rw [show s.getD j 0 = s[j] by simp [List.getD, hj]] at this
    exact this
  · intro h j hj
    have hj := List.mem_range.1 hj
    rw [show s.getD j 0 = s[j] by simp [List.getD, hj]]
    exact h j hj
theorem schU_no {s : List UInt8} (h : ixU s ≤ 0) : schU s = 0 := by
  rw [ixU_eq] at h
  unfold schU
  cases e : s.findIdx? stopU with
  | none => rfl
  | some i =>
    rw [e] at h
    simp only at h ⊢
    have : i = 0 := by omega
    subst this
    split <;> rfl
theorem schU_at {s : List UInt8} (h : 0 < ixU s) : ∃ i : Nat, ixU s = (i : Int) ∧ 0 < i ∧ ∃ hi : i < s.length, schU s = if s[i] = 58 ∧ okUs (s.take i) = true then i else 0 := by
  rw [ixU_eq] at h ⊢
  unfold schU
  cases e : s.findIdx? stopU with
  | none => rw [e] at h; simp only at h; omega
  | some i =>
    rw [e] at h
    simp only at h ⊢
    obtain ⟨hi, _⟩ := List.findIdx?_eq_some_iff_getElem.1 e
    refine ⟨i, rfl, by omega, hi, ?_⟩
    rw [List.getElem?_eq_getElem hi]
    simp
theorem schU_le (s : List UInt8) : schU s ≤ s.length := by
  rcases Int.lt_or_le 0 (ixU s) with h | h
  · obtain ⟨i, _, _, hi, e⟩ := schU_at h
    rw [e]; split <;> omega
  · rw [schU_no h]; omega
theorem c58 (c : UInt8) : c = 58 ↔ c.toNat = 58 := ⟨fun h => by rw [h]; rfl, fun h => UInt8.toNat_inj.1 h⟩
set_option maxHeartbeats 4000000 in
theorem scheme_c (s : List UInt8) (hs : s.length ≤ 1000000) (w : World) :
    Calls Tryz.prog 68 #[.string ⟨s.toArray⟩] w fun e w' => e = .returned (.int .i64 (schU s)) ∧ Bl w w' := by
  have IC := Lib.hid (idxA_c s (by omega) w)
  have LC := Lib.hid (fun c W => lowerU_c c W)
  rcases Int.lt_or_le 0 (ixU s) with h | h
  · obtain ⟨i, e1, e2, hi, e3⟩ := schU_at h
    rw [e1] at IC
    have HE := Lib.hid e3
    have q1 : ¬ (i : Int) ≤ 0 := by omega
    have hil : (i : Int) < (s.length : Int) := by omega
    clear h e1 e3
    by_cases h58 : s[i].toNat = 58
    · have HC := Lib.hid ((c58 _).2 h58)
      have h58' : (s[i].toNat : Int) = 58 := by omega
      clear h58
      go_enter Tryz.func68, Tryz.ntmps68
      go_wp2_with (go_at_call 87; (with_reducible refine IC.out.mono ?_); rintro e w1 ⟨rfl, hb1⟩)
      go_loop [4, 5, 17] (fun _ _ k => ∃ j : Nat, j ≤ i ∧ k = .int .i64 j ∧ Hid (∀ t (ht : t < s.length), t < j → okU t s[t] = true)) (fun _ _ k => i - (intOf k).toNat)
      case atStart => exact ⟨0, Nat.zero_le _, rfl, Lib.hid (fun t _ h => by omega)⟩
      case round =>
        obtain ⟨j, hj, rfl, HP⟩ := hrel
        by_cases hlt : j < i
        · have hjs : j < s.length := by omega
          have hlt' : (j : Int) < (i : Int) := by omega
          have HK := Lib.hid (okU_iff j s[j])
          obtain ⟨d, hd⟩ : ∃ d, d = fld s[j] := ⟨_, rfl⟩
          have LJ := Lib.hid (LC.out s[j])
          rw [← hd] at HK LJ
          have hdl := u8_lt d
          clear hd
          have hcases : (97 ≤ d.toNat ∧ d.toNat ≤ 122) ∨ (j = 0 ∧ d.toNat < 97) ∨ (j = 0 ∧ 122 < d.toNat) ∨ (j ≠ 0 ∧ 48 ≤ d.toNat ∧ d.toNat ≤ 57) ∨ (j ≠ 0 ∧ d.toNat = 43) ∨ (j ≠ 0 ∧ d.toNat = 45) ∨ (j ≠ 0 ∧ d.toNat = 46) ∨ (j ≠ 0 ∧ d.toNat < 48 ∧ d.toNat ≠ 43 ∧ d.toNat ≠ 45 ∧ d.toNat ≠ 46) ∨ (j ≠ 0 ∧ 57 < d.toNat ∧ d.toNat < 97) ∨ (j ≠ 0 ∧ 122 < d.toNat) := by omega
          rcases hcases with hcs | hcs | hcs | hcs | hcs | hcs | hcs | hcs | hcs | hcs
          · have z0 : (97 : Int) ≤ (d.toNat : Int) := by omega
            have z1 : (d.toNat : Int) ≤ 122 := by omega
            have HD := Lib.hid hcs
            clear hcs
            go_wp2_with (go_at_call 67; (with_reducible refine (LJ.out _).mono ?_); rintro e w2 ⟨rfl, rfl⟩)
            go_round
            case rel =>
              refine ⟨j + 1, by omega, by go_num, Lib.hid (fun t ht h => ?_)⟩
              by_cases e : t = j
              · subst e; rw [HK.out]; have := HD.out; omega
              · exact HP.out t ht (by omega)
            case measure => simp [intOf]; omega
          · obtain ⟨rfl, hcs⟩ := hcs
            have z0 : ¬ (97 : Int) ≤ (d.toNat : Int) := by omega
            have HD := Lib.hid hcs
            clear hcs
            go_wp2_with (go_at_call 67; (with_reducible refine (LJ.out _).mono ?_); rintro e w2 ⟨rfl, rfl⟩)
            go_ret
            exact ⟨ret_int (by
              rw [HE.out, if_neg]
              · rfl
              · rintro ⟨_, h⟩
                have h2 := (okUs_iff _).1 h 0 (by rw [List.length_take]; omega)
                rw [List.getElem_take, HK.out] at h2
                have := HD.out; omega), hb1⟩
          · obtain ⟨rfl, hcs⟩ := hcs
            have z0 : (97 : Int) ≤ (d.toNat : Int) := by omega
            have z1 : ¬ (d.toNat : Int) ≤ 122 := by omega
            have z2 : (!decide ((d.toNat : Int) ≤ 122)) = true := by simp; omega
            have HD := Lib.hid hcs
            clear hcs
            go_wp2_with (go_at_call 67; (with_reducible refine (LJ.out _).mono ?_); rintro e w2 ⟨rfl, rfl⟩)
            go_ret
            exact ⟨ret_int (by
              rw [HE.out, if_neg]
              · rfl
              · rintro ⟨_, h⟩
                have h2 := (okUs_iff _).1 h 0 (by rw [List.length_take]; omega)
                rw [List.getElem_take, HK.out] at h2
                have := HD.out; omega), hb1⟩
          · have z0 : ¬ (97 : Int) ≤ (d.toNat : Int) := by omega
            have z1 : ¬ (j : Int) = 0 := by omega
            have z2 : ((j : Int) == 0) = false := by simp; omega
            have z3 : (48 : Int) ≤ (d.toNat : Int) := by omega
            have z4 : (d.toNat : Int) ≤ 57 := by omega
            have HD := Lib.hid hcs
            clear hcs
            go_wp2_with (go_at_call 67; (with_reducible refine (LJ.out _).mono ?_); rintro e w2 ⟨rfl, rfl⟩)
            go_round
            case rel =>
              refine ⟨j + 1, by omega, by go_num, Lib.hid (fun t ht h => ?_)⟩
              by_cases e : t = j
              · subst e; rw [HK.out]; have := HD.out; omega
              · exact HP.out t ht (by omega)
            case measure => simp [intOf]; omega
          · have z0 : ¬ (j : Int) = 0 := by omega
            have z1 : ((j : Int) == 0) = false := by simp; omega
            have z2 : (d.toNat : Int) = 43 := by omega
            have z3 : ((d.toNat : Int) != 43) = false := by simp; omega
            have HD := Lib.hid hcs
            clear hcs
            go_wp2_with (go_at_call 67; (with_reducible refine (LJ.out _).mono ?_); rintro e w2 ⟨rfl, rfl⟩)
            go_round
            case rel =>
              refine ⟨j + 1, by omega, by go_num, Lib.hid (fun t ht h => ?_)⟩
              by_cases e : t = j
              · subst e; rw [HK.out]; have := HD.out; omega
              · exact HP.out t ht (by omega)
            case measure => simp [intOf]; omega
          · have z0 : ¬ (j : Int) = 0 := by omega
            have z1 : ((j : Int) == 0) = false := by simp; omega
            have z2 : (d.toNat : Int) = 45 := by omega
            have z3 : ((d.toNat : Int) != 45) = false := by simp; omega
            have HD := Lib.hid hcs
            clear hcs
            go_wp2_with (go_at_call 67; (with_reducible refine (LJ.out _).mono ?_); rintro e w2 ⟨rfl, rfl⟩)
            go_round
            case rel =>
              refine ⟨j + 1, by omega, by go_num, Lib.hid (fun t ht h => ?_)⟩
              by_cases e : t = j
              · subst e; rw [HK.out]; have := HD.out; omega
              · exact HP.out t ht (by omega)
            case measure => simp [intOf]; omega
          · have z0 : ¬ (j : Int) = 0 := by omega
            have z1 : ((j : Int) == 0) = false := by simp; omega
            have z2 : (d.toNat : Int) = 46 := by omega
            have z3 : ((d.toNat : Int) != 46) = false := by simp; omega
            have HD := Lib.hid hcs
            clear hcs
            go_wp2_with (go_at_call 67; (with_reducible refine (LJ.out _).mono ?_); rintro e w2 ⟨rfl, rfl⟩)
            go_round
            case rel =>
              refine ⟨j + 1, by omega, by go_num, Lib.hid (fun t ht h => ?_)⟩
              by_cases e : t = j
              · subst e; rw [HK.out]; have := HD.out; omega
              · exact HP.out t ht (by omega)
            case measure => simp [intOf]; omega
          · have z0 : ¬ (97 : Int) ≤ (d.toNat : Int) := by omega
            have z1 : ¬ (j : Int) = 0 := by omega
            have z2 : ((j : Int) == 0) = false := by simp; omega
            have z3 : ¬ (48 : Int) ≤ (d.toNat : Int) := by omega
            have z4 : ¬ (d.toNat : Int) = 43 := by omega
            have z5 : ((d.toNat : Int) != 43) = true := by simp; omega
            have z6 : ¬ (d.toNat : Int) = 45 := by omega
            have z7 : ((d.toNat : Int) != 45) = true := by simp; omega
            have z8 : ¬ (d.toNat : Int) = 46 := by omega
            have z9 : ((d.toNat : Int) != 46) = true := by simp; omega
            have HD := Lib.hid hcs
            clear hcs
            go_wp2_with (go_at_call 67; (with_reducible refine (LJ.out _).mono ?_); rintro e w2 ⟨rfl, rfl⟩)
            go_ret
            exact ⟨ret_int (by
              rw [HE.out, if_neg]
              · rfl
              · rintro ⟨_, h⟩
                have h2 := (okUs_iff _).1 h j (by rw [List.length_take]; omega)
                rw [List.getElem_take, HK.out] at h2
                have := HD.out; omega), hb1⟩
          · have z0 : ¬ (97 : Int) ≤ (d.toNat : Int) := by omega
            have z1 : ¬ (j : Int) = 0 := by omega
            have z2 : ((j : Int) == 0) = false := by simp; omega
            have z3 : (48 : Int) ≤ (d.toNat : Int) := by omega
            have z4 : ¬ (d.toNat : Int) ≤ 57 := by omega
            have z5 : (!decide ((d.toNat : Int) ≤ 57)) = true := by simp; omega
            have z6 : ¬ (d.toNat : Int) = 43 := by omega
            have z7 : ((d.toNat : Int) != 43) = true := by simp; omega
            have z8 : ¬ (d.toNat : Int) = 45 := by omega
            have z9 : ((d.toNat : Int) != 45) = true := by simp; omega
            have z10 : ¬ (d.toNat : Int) = 46 := by omega
            have z11 : ((d.toNat : Int) != 46) = true := by simp; omega
            have HD := Lib.hid hcs
            clear hcs
            go_wp2_with (go_at_call 67; (with_reducible refine (LJ.out _).mono ?_); rintro e w2 ⟨rfl, rfl⟩)
            go_ret
            exact ⟨ret_int (by
              rw [HE.out, if_neg]
              · rfl
              · rintro ⟨_, h⟩
                have h2 := (okUs_iff _).1 h j (by rw [List.length_take]; omega)
                rw [List.getElem_take, HK.out] at h2
                have := HD.out; omega), hb1⟩
          · have z0 : (97 : Int) ≤ (d.toNat : Int) := by omega
            have z1 : ¬ (d.toNat : Int) ≤ 122 := by omega
            have z2 : (!decide ((d.toNat : Int) ≤ 122)) = true := by simp; omega
            have z3 : ¬ (j : Int) = 0 := by omega
            have z4 : ((j : Int) == 0) = false := by simp; omega
            have z5 : (48 : Int) ≤ (d.toNat : Int) := by omega
            have z6 : ¬ (d.toNat : Int) ≤ 57 := by omega
            have z7 : (!decide ((d.toNat : Int) ≤ 57)) = true := by simp; omega
            have z8 : ¬ (d.toNat : Int) = 43 := by omega
            have z9 : ((d.toNat : Int) != 43) = true := by simp; omega
            have z10 : ¬ (d.toNat : Int) = 45 := by omega
            have z11 : ((d.toNat : Int) != 45) = true := by simp; omega
            have z12 : ¬ (d.toNat : Int) = 46 := by omega
            have z13 : ((d.toNat : Int) != 46) = true := by simp; omega
            have HD := Lib.hid hcs
            clear hcs
            go_wp2_with (go_at_call 67; (with_reducible refine (LJ.out _).mono ?_); rintro e w2 ⟨rfl, rfl⟩)
            go_ret
            exact ⟨ret_int (by
              rw [HE.out, if_neg]
              · rfl
              · rintro ⟨_, h⟩
                have h2 := (okUs_iff _).1 h j (by rw [List.length_take]; omega)
                rw [List.getElem_take, HK.out] at h2
                have := HD.out; omega), hb1⟩
        · obtain rfl : j = i := by omega
          go_wp2
          go_ret
          exact ⟨ret_int (by
            rw [HE.out, if_pos ⟨HC.out, (okUs_iff _).2 (fun t ht => by
              rw [List.length_take] at ht
              rw [List.getElem_take]
              exact HP.out t (by omega) (by omega))⟩]), hb1⟩
    · have HC := Lib.hid (show ¬ s[i] = 58 from fun e => h58 ((c58 _).1 e))
      have h58' : ¬ (s[i].toNat : Int) = 58 := by omega
      clear h58
      go_enter Tryz.func68, Tryz.ntmps68
      go_wp2_with (go_at_call 87; (with_reducible refine IC.out.mono ?_); rintro e w1 ⟨rfl, hb1⟩)
      go_ret
      exact ⟨ret_int (by rw [HE.out, if_neg (fun e => HC.out e.1)]; rfl), hb1⟩
  · have HE := Lib.hid (schU_no h)
    obtain ⟨k, hk⟩ : ∃ k, k = ixU s := ⟨_, rfl⟩
    rw [← hk] at IC h
    clear hk
    go_enter Tryz.func68, Tryz.ntmps68
    go_wp2_with (go_at_call 87; (with_reducible refine IC.out.mono ?_); rintro e w1 ⟨rfl, hb1⟩)
    go_ret
    exact ⟨ret_int (by rw [HE.out]; rfl), hb1⟩
theorem shr_snoc (l : List UInt8) (k : Nat) (h : k < l.length) : shrU (l.take (k + 1)) = shrU (l.take k) ++ (if 32 < l[k].toNat then [fld l[k]] else []) := by
  unfold shrU fold
  rw [take_snoc l k h, List.filter_append, List.map_append]
  by_cases h2 : 32 < l[k].toNat <;> simp [h2]
theorem shr_len (l : List UInt8) : (shrU l).length ≤ l.length := by
  unfold shrU fold; rw [List.length_map]; exact List.length_filter_le _ _
set_option maxHeartbeats 4000000 in
set_option maxRecDepth 100000 in
theorem is_c (l : List UInt8) (hl : l.length ≤ 1000000) (w : World) :
    Calls Tryz.prog 52 #[.string ⟨l.toArray⟩] w fun e w' => e = .returned (.bool (isU l)) ∧ Bl w w' := by
  obtain ⟨i0, hi, hz0, hz1, hz2⟩ := info_parts Tryz.infoU8
  have hcv := of_str
  have LC := Lib.hid (fun c W => lowerU_c c W)
  have SC := Lib.hid (fun W => scheme_c (shrU l) (by have := shr_len l; omega) W)
  have HSL := Lib.hid (schU_le (shrU l))
  go_enter Tryz.func52, Tryz.ntmps52
  go_wp2
  go_loopw [3, 5, 11] (fun v _ i wr => ∃ k : Nat, k ≤ l.length ∧ i = .int .i64 k ∧ BA wr w.heap.size l ∧ w.heap.size < wr.heap.size ∧ wr.ownsRow (w.heap.size + 1) 5 1 v (shrU (l.take k)).length (bcs (shrU (l.take k))) ∧ Below w.heap.size w wr) (fun _ _ i _ => l.length - (intOf i).toNat)
  case atStart => exact ⟨0, Nat.zero_le _, rfl, BA_brow w.drew l _ _, by simp, World.ownsRow_nil _ _ _ _, (Bl.refl _).drew.alloc _⟩
  case round =>
    obtain ⟨k, hk, rfl, hBA, hws, hown, hbl⟩ := hrel
    by_cases hlt : k < l.length
    · have hc := u8_lt l[k]
      have hck := hBA k hlt
      have HT := Lib.hid (shr_snoc l k hlt)
      have hkl : (shrU (l.take k)).length ≤ k := by have := shr_len (l.take k); rw [List.length_take] at this; omega
      have HB := Lib.hid hBA
      clear hBA
      by_cases hu : 32 < l[k].toNat
      · have hu' : (32 : Int) < (l[k].toNat : Int) := by omega
        have HT2 := Lib.hid (show bcs (shrU (l.take (k + 1))) = bcs (shrU (l.take k)) ++ [.int .u8 ((fld l[k]).toNat : Int)] by rw [HT.out, if_pos hu]; unfold bcs; rw [List.map_append]; rfl)
        have HL := Lib.hid (show (shrU (l.take (k + 1))).length = (shrU (l.take k)).length + 1 by rw [HT.out, if_pos hu]; simp)
        obtain ⟨d, hd⟩ : ∃ d, d = fld l[k] := ⟨_, rfl⟩
        have LJ := Lib.hid (LC.out l[k])
        rw [← hd] at HT2 LJ
        clear hu hd
        obtain ⟨n, hn⟩ : ∃ n, n = (shrU (l.take k)).length := ⟨_, rfl⟩
        rw [← hn] at HL hown hkl
        clear hn
        go_wp2_with (first | (go_at_call 67; (with_reducible refine (LJ.out _).mono ?_); rintro e w2 ⟨rfl, rfl⟩) | (at_builtin; refine wpList_append_own _ rfl _ _ 89 rfl (w.heap.size + 1) 5 i0 (.int .u8 0) 1 1 Tryz.underlying89 hi hz0 hz1 hz2 rfl (by decide) _ _ _ rfl (hown.alloc _) ⟨wr.heap.size, 0, none⟩ 1 1 [.int .u8 (d.toNat : Int)] rfl rfl (new_cells wr #[.int .u8 (d.toNat : Int)] _) (by simp [Value.oneCell']) (by unfold maxLen; omega) (by omega) (by simp; omega) ?_))
        intro v' w1 hown' hgrow _
        have hB1 : Below (w.heap.size + 1) wr w1 := ((Below.refl _ wr).alloc (by omega) _).grown hgrow (by simp; omega) (fun g hg => (hown.lt g hg).1)
        have hB' : Below w.heap.size w w1 := Below.trans hbl (Below.mono hB1 (by omega))
        have hO : w1.ownsRow (w.heap.size + 1) 5 1 v' (shrU (l.take (k + 1))).length (bcs (shrU (l.take (k + 1)))) := by
          rw [HL.out, HT2.out]; simpa using hown'
        have hBA1 : BA w1 w.heap.size l := fun i hi => (Below.cell hB1 (p := ⟨w.heap.size, i, none⟩) (by show w.heap.size < w.heap.size + 1; omega)).trans (HB.out i hi)
        have hs1 : w.heap.size < w1.heap.size := Nat.lt_of_lt_of_le hws (Below.size hB1)
        clear hown' hgrow hown
        go_wp2
        go_roundw
        case rel => exact ⟨k + 1, by omega, by go_num, hBA1, hs1, hO, hB'⟩
        case measure => simp [intOf]; omega
      · have hu' : ¬ (32 : Int) < (l[k].toNat : Int) := by omega
        have HT2 := Lib.hid (show shrU (l.take (k + 1)) = shrU (l.take k) by rw [HT.out, if_neg hu, List.append_nil])
        clear hu
        go_wp2
        go_roundw
        case rel => exact ⟨k + 1, by omega, by go_num, HB.out, hws, by rw [HT2.out]; exact hown, hbl⟩
        case measure => simp [intOf]; omega
    · have HE := Lib.hid (show l.take k = l from List.take_of_length_le (by omega))
      rw [HE.out] at hown
      have hcv2 := conv_own wr _ _ (shrU l) hown
      obtain ⟨T, hT⟩ : ∃ T, T = shrU l := ⟨_, rfl⟩
      have HI := Lib.hid (show isU l = (decide (T.take (schU T) = sHttp) || decide (T.take (schU T) = sHttps) || decide (T.take (schU T) = sMail)) by rw [hT]; rfl)
      rw [← hT] at SC HSL hcv2
      obtain ⟨n, hn⟩ : ∃ n, n = schU T := ⟨_, rfl⟩
      rw [← hn] at SC HSL HI
      have hnl := HSL.out
      have hnl' : (n : Int) ≤ (T.length : Int) := by omega
      clear hcv hown hT hn
      go_wp2_with (go_at_call 68; (with_reducible refine (SC.out _).mono ?_); rintro e w2 ⟨rfl, hb2⟩)
      all_goals
        (go_ret
         refine ⟨ret_bool ?_, Bl.trans hbl hb2⟩
         rw [HI.out, Bool.eq_iff_iff]
         first | (simp [sHttp, sHttps, sMail, *]; done) | (simp [sHttp, sHttps, sMail, *]; exact decide_eq_true_iff.symm))
end Go.Proofs.YthnpljkekhieiaaGreatDoor

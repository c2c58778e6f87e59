/- Links: the scheme; may a link be followed? · slices.IndexFunc, slices.ContainsFunc at structs: the closure's answer is asked for the elements that are there alone. · Shelves: the order of entries; what comes in keeps the order. -/
import Derived.Test.YtamdlihgecpbkaaGreatDoorGrpI
import Derived.Test.YtamdlihgecpbkaaGreatDoorGrpA
import Derived.Test.YtamdlihgecpbkaaGreatDoorGrpH
set_option maxRecDepth 100000
set_option maxHeartbeats 4000000
namespace Go.Proofs.YtamdlihgecpbkaaGreatDoor
open Go.RowKit
theorem okU_iff (k : Nat) (c : UInt8) : okU k c = true ↔ (97 ≤ (fld c).toNat ∧ (fld c).toNat ≤ 122) ∨ (k ≠ 0 ∧ ((48 ≤ (fld c).toNat ∧ (fld c).toNat ≤ 57) ∨ (fld c).toNat = 43 ∨ (fld c).toNat = 45 ∨ (fld c).toNat = 46)) := by
 have h := fld_nat c; unfold okU ltr lwr; simp only [Bool.or_eq_true, Bool.and_eq_true, decide_eq_true_eq]; by_cases hu : 65 ≤ c.toNat ∧ c.toNat ≤ 90
 · rw [if_pos hu] at h; omega
 · rw [if_neg hu] at h; omega
theorem okUs_iff (s : List UInt8) : okUs s = true ↔ ∀ j (h : j < s.length), okU j s[j] = true := by
 unfold okUs; rw [List.all_eq_true]; constructor
 · intro h j hj; have := h j (List.mem_range.2 hj); rw [show s.getD j 0 = s[j] by simp [List.getD, hj]] at this; exact this
 · intro h j hj; have hj := List.mem_range.1 hj; rw [show s.getD j 0 = s[j] by simp [List.getD, hj]]; exact h j hj
theorem schU_no {s : List UInt8} (h : ixU s ≤ 0) : schU s = 0 := by
 rw [ixU_eq] at h; unfold schU; cases e : s.findIdx? stopU with
 | none => rfl
 | some i =>
   rw [e] at h; simp only at h ⊢; have : i = 0 := by omega
   subst this; split <;> rfl
theorem schU_at {s : List UInt8} (h : 0 < ixU s) : ∃ i : Nat, ixU s = (i : Int) ∧ 0 < i ∧ ∃ hi : i < s.length, schU s = if s[i] = 58 ∧ okUs (s.take i) = true then i else 0 := by
 rw [ixU_eq] at h ⊢; unfold schU; cases e : s.findIdx? stopU with
 | none => rw [e] at h; simp only at h; omega
 | some i =>
   rw [e] at h; simp only at h ⊢; obtain ⟨hi, _⟩ := List.findIdx?_eq_some_iff_getElem.1 e; refine ⟨i, rfl, by omega, hi, ?_⟩; rw [List.getElem?_eq_getElem hi]; simp
theorem schU_le (s : List UInt8) : schU s ≤ s.length := by
 rcases Int.lt_or_le 0 (ixU s) with h | h
 · obtain ⟨i, _, _, hi, e⟩ := schU_at h; rw [e]; split <;> omega
 · rw [schU_no h]; omega
theorem c58 (c : UInt8) : c = 58 ↔ c.toNat = 58 := ⟨fun h => by rw [h]; rfl, fun h => UInt8.toNat_inj.1 h⟩
theorem scheme_c (s : List UInt8) (hs : s.length ≤ 1000000) (w : World) :
 Calls Tryz.prog 89 #[.string ⟨s.toArray⟩] w fun e w' => e = .returned (.int .i64 (schU s)) ∧ Bl w w' := by
 have IC := Lib.hid (idxA_c s (by omega) w); have LC := Lib.hid (fun c W => lowerU_c c W); rcases Int.lt_or_le 0 (ixU s) with h | h
 · obtain ⟨i, e1, e2, hi, e3⟩ := schU_at h; rw [e1] at IC; have HE := Lib.hid e3; have q1 : ¬ (i : Int) ≤ 0 := by omega
   have hil : (i : Int) < (s.length : Int) := by omega
   clear h e1 e3; by_cases h58 : s[i].toNat = 58
   · have HC := Lib.hid ((c58 _).2 h58); have h58' : (s[i].toNat : Int) = 58 := by omega
     clear h58; go_enter Tryz.func89, Tryz.ntmps89; go_wp2_with (go_at_call 125; (with_reducible refine IC.out.mono ?_); rintro e w1 ⟨rfl, hb1⟩); go_loop [4, 5, 17] (fun _ _ k => ∃ j : Nat, j ≤ i ∧ k = .int .i64 j ∧ Hid (∀ t (ht : t < s.length), t < j → okU t s[t] = true)) (fun _ _ k => i - (intOf k).toNat); case atStart => exact ⟨0, Nat.zero_le _, rfl, Lib.hid (fun t _ h => by omega)⟩
     case round =>
      obtain ⟨j, hj, rfl, HP⟩ := hrel; by_cases hlt : j < i
      · have hjs : j < s.length := by omega
        have hlt' : (j : Int) < (i : Int) := by omega
        have HK := Lib.hid (okU_iff j s[j]); obtain ⟨d, hd⟩ : ∃ d, d = fld s[j] := ⟨_, rfl⟩; have LJ := Lib.hid (LC.out s[j]); rw [← hd] at HK LJ; have hdl := u8_lt d; clear hd; have hcases : (97 ≤ d.toNat ∧ d.toNat ≤ 122) ∨ (j = 0 ∧ d.toNat < 97) ∨ (j = 0 ∧ 122 < d.toNat) ∨ (j ≠ 0 ∧ 48 ≤ d.toNat ∧ d.toNat ≤ 57) ∨ (j ≠ 0 ∧ d.toNat = 43) ∨ (j ≠ 0 ∧ d.toNat = 45) ∨ (j ≠ 0 ∧ d.toNat = 46) ∨ (j ≠ 0 ∧ d.toNat < 48 ∧ d.toNat ≠ 43 ∧ d.toNat ≠ 45 ∧ d.toNat ≠ 46) ∨ (j ≠ 0 ∧ 57 < d.toNat ∧ d.toNat < 97) ∨ (j ≠ 0 ∧ 122 < d.toNat) := by omega
        rcases hcases with hcs | hcs | hcs | hcs | hcs | hcs | hcs | hcs | hcs | hcs
        · have z0 : (97 : Int) ≤ (d.toNat : Int) := by omega
          have z1 : (d.toNat : Int) ≤ 122 := by omega
          have HD := Lib.hid hcs; clear hcs; go_wp2_with (go_at_call 88; (with_reducible refine (LJ.out _).mono ?_); rintro e w2 ⟨rfl, rfl⟩); go_round; case rel =>
           refine ⟨j + 1, by omega, by go_num, Lib.hid (fun t ht h => ?_)⟩; by_cases e : t = j
           · subst e; rw [HK.out]; have := HD.out; omega
           · exact HP.out t ht (by omega)
          case measure => simp [intOf]; omega
        · obtain ⟨rfl, hcs⟩ := hcs; have z0 : ¬ (97 : Int) ≤ (d.toNat : Int) := by omega
          have HD := Lib.hid hcs; clear hcs; go_wp2_with (go_at_call 88; (with_reducible refine (LJ.out _).mono ?_); rintro e w2 ⟨rfl, rfl⟩); go_ret; exact ⟨ret_int (by
           rw [HE.out, if_neg]
           · rfl
           · rintro ⟨_, h⟩; have h2 := (okUs_iff _).1 h 0 (by rw [List.length_take]; omega); rw [List.getElem_take, HK.out] at h2; have := HD.out; omega), hb1⟩
        · obtain ⟨rfl, hcs⟩ := hcs; have z0 : (97 : Int) ≤ (d.toNat : Int) := by omega
          have z1 : ¬ (d.toNat : Int) ≤ 122 := by omega
          have z2 : (!decide ((d.toNat : Int) ≤ 122)) = true := by simp; omega
          have HD := Lib.hid hcs; clear hcs; go_wp2_with (go_at_call 88; (with_reducible refine (LJ.out _).mono ?_); rintro e w2 ⟨rfl, rfl⟩); go_ret; exact ⟨ret_int (by
           rw [HE.out, if_neg]
           · rfl
           · rintro ⟨_, h⟩; have h2 := (okUs_iff _).1 h 0 (by rw [List.length_take]; omega); rw [List.getElem_take, HK.out] at h2; have := HD.out; omega), hb1⟩
        · have z0 : ¬ (97 : Int) ≤ (d.toNat : Int) := by omega
          have z1 : ¬ (j : Int) = 0 := by omega
          have z2 : ((j : Int) == 0) = false := by simp; omega
          have z3 : (48 : Int) ≤ (d.toNat : Int) := by omega
          have z4 : (d.toNat : Int) ≤ 57 := by omega
          have HD := Lib.hid hcs; clear hcs; go_wp2_with (go_at_call 88; (with_reducible refine (LJ.out _).mono ?_); rintro e w2 ⟨rfl, rfl⟩); go_round; case rel =>
           refine ⟨j + 1, by omega, by go_num, Lib.hid (fun t ht h => ?_)⟩; by_cases e : t = j
           · subst e; rw [HK.out]; have := HD.out; omega
           · exact HP.out t ht (by omega)
          case measure => simp [intOf]; omega
        · have z0 : ¬ (j : Int) = 0 := by omega
          have z1 : ((j : Int) == 0) = false := by simp; omega
          have z2 : (d.toNat : Int) = 43 := by omega
          have z3 : ((d.toNat : Int) != 43) = false := by simp; omega
          have HD := Lib.hid hcs; clear hcs; go_wp2_with (go_at_call 88; (with_reducible refine (LJ.out _).mono ?_); rintro e w2 ⟨rfl, rfl⟩); go_round; case rel =>
           refine ⟨j + 1, by omega, by go_num, Lib.hid (fun t ht h => ?_)⟩; by_cases e : t = j
           · subst e; rw [HK.out]; have := HD.out; omega
           · exact HP.out t ht (by omega)
          case measure => simp [intOf]; omega
        · have z0 : ¬ (j : Int) = 0 := by omega
          have z1 : ((j : Int) == 0) = false := by simp; omega
          have z2 : (d.toNat : Int) = 45 := by omega
          have z3 : ((d.toNat : Int) != 45) = false := by simp; omega
          have HD := Lib.hid hcs; clear hcs; go_wp2_with (go_at_call 88; (with_reducible refine (LJ.out _).mono ?_); rintro e w2 ⟨rfl, rfl⟩); go_round; case rel =>
           refine ⟨j + 1, by omega, by go_num, Lib.hid (fun t ht h => ?_)⟩; by_cases e : t = j
           · subst e; rw [HK.out]; have := HD.out; omega
           · exact HP.out t ht (by omega)
          case measure => simp [intOf]; omega
        · have z0 : ¬ (j : Int) = 0 := by omega
          have z1 : ((j : Int) == 0) = false := by simp; omega
          have z2 : (d.toNat : Int) = 46 := by omega
          have z3 : ((d.toNat : Int) != 46) = false := by simp; omega
          have HD := Lib.hid hcs; clear hcs; go_wp2_with (go_at_call 88; (with_reducible refine (LJ.out _).mono ?_); rintro e w2 ⟨rfl, rfl⟩); go_round; case rel =>
           refine ⟨j + 1, by omega, by go_num, Lib.hid (fun t ht h => ?_)⟩; by_cases e : t = j
           · subst e; rw [HK.out]; have := HD.out; omega
           · exact HP.out t ht (by omega)
          case measure => simp [intOf]; omega
        · have z0 : ¬ (97 : Int) ≤ (d.toNat : Int) := by omega
          have z1 : ¬ (j : Int) = 0 := by omega
          have z2 : ((j : Int) == 0) = false := by simp; omega
          have z3 : ¬ (48 : Int) ≤ (d.toNat : Int) := by omega
          have z4 : ¬ (d.toNat : Int) = 43 := by omega
          have z5 : ((d.toNat : Int) != 43) = true := by simp; omega
          have z6 : ¬ (d.toNat : Int) = 45 := by omega
          have z7 : ((d.toNat : Int) != 45) = true := by simp; omega
          have z8 : ¬ (d.toNat : Int) = 46 := by omega
          have z9 : ((d.toNat : Int) != 46) = true := by simp; omega
          have HD := Lib.hid hcs; clear hcs; go_wp2_with (go_at_call 88; (with_reducible refine (LJ.out _).mono ?_); rintro e w2 ⟨rfl, rfl⟩); go_ret; exact ⟨ret_int (by
           rw [HE.out, if_neg]
           · rfl
           · rintro ⟨_, h⟩; have h2 := (okUs_iff _).1 h j (by rw [List.length_take]; omega); rw [List.getElem_take, HK.out] at h2; have := HD.out; omega), hb1⟩
        · have z0 : ¬ (97 : Int) ≤ (d.toNat : Int) := by omega
          have z1 : ¬ (j : Int) = 0 := by omega
          have z2 : ((j : Int) == 0) = false := by simp; omega
          have z3 : (48 : Int) ≤ (d.toNat : Int) := by omega
          have z4 : ¬ (d.toNat : Int) ≤ 57 := by omega
          have z5 : (!decide ((d.toNat : Int) ≤ 57)) = true := by simp; omega
          have z6 : ¬ (d.toNat : Int) = 43 := by omega
          have z7 : ((d.toNat : Int) != 43) = true := by simp; omega
          have z8 : ¬ (d.toNat : Int) = 45 := by omega
          have z9 : ((d.toNat : Int) != 45) = true := by simp; omega
          have z10 : ¬ (d.toNat : Int) = 46 := by omega
          have z11 : ((d.toNat : Int) != 46) = true := by simp; omega
          have HD := Lib.hid hcs; clear hcs; go_wp2_with (go_at_call 88; (with_reducible refine (LJ.out _).mono ?_); rintro e w2 ⟨rfl, rfl⟩); go_ret; exact ⟨ret_int (by
           rw [HE.out, if_neg]
           · rfl
           · rintro ⟨_, h⟩; have h2 := (okUs_iff _).1 h j (by rw [List.length_take]; omega); rw [List.getElem_take, HK.out] at h2; have := HD.out; omega), hb1⟩
        · have z0 : (97 : Int) ≤ (d.toNat : Int) := by omega
          have z1 : ¬ (d.toNat : Int) ≤ 122 := by omega
          have z2 : (!decide ((d.toNat : Int) ≤ 122)) = true := by simp; omega
          have z3 : ¬ (j : Int) = 0 := by omega
          have z4 : ((j : Int) == 0) = false := by simp; omega
          have z5 : (48 : Int) ≤ (d.toNat : Int) := by omega
          have z6 : ¬ (d.toNat : Int) ≤ 57 := by omega
          have z7 : (!decide ((d.toNat : Int) ≤ 57)) = true := by simp; omega
          have z8 : ¬ (d.toNat : Int) = 43 := by omega
          have z9 : ((d.toNat : Int) != 43) = true := by simp; omega
          have z10 : ¬ (d.toNat : Int) = 45 := by omega
          have z11 : ((d.toNat : Int) != 45) = true := by simp; omega
          have z12 : ¬ (d.toNat : Int) = 46 := by omega
          have z13 : ((d.toNat : Int) != 46) = true := by simp; omega
          have HD := Lib.hid hcs; clear hcs; go_wp2_with (go_at_call 88; (with_reducible refine (LJ.out _).mono ?_); rintro e w2 ⟨rfl, rfl⟩); go_ret; exact ⟨ret_int (by
           rw [HE.out, if_neg]
           · rfl
           · rintro ⟨_, h⟩; have h2 := (okUs_iff _).1 h j (by rw [List.length_take]; omega); rw [List.getElem_take, HK.out] at h2; have := HD.out; omega), hb1⟩
      · obtain rfl : j = i := by omega
        go_wp2; go_ret; exact ⟨ret_int (by
         rw [HE.out, if_pos ⟨HC.out, (okUs_iff _).2 (fun t ht => by
          rw [List.length_take] at ht; rw [List.getElem_take]; exact HP.out t (by omega) (by omega))⟩]), hb1⟩
   · have HC := Lib.hid (show ¬ s[i] = 58 from fun e => h58 ((c58 _).1 e)); have h58' : ¬ (s[i].toNat : Int) = 58 := by omega
     clear h58; go_enter Tryz.func89, Tryz.ntmps89; go_wp2_with (go_at_call 125; (with_reducible refine IC.out.mono ?_); rintro e w1 ⟨rfl, hb1⟩); go_ret; exact ⟨ret_int (by rw [HE.out, if_neg (fun e => HC.out e.1)]; rfl), hb1⟩
 · have HE := Lib.hid (schU_no h); obtain ⟨k, hk⟩ : ∃ k, k = ixU s := ⟨_, rfl⟩; rw [← hk] at IC h; clear hk; go_enter Tryz.func89, Tryz.ntmps89; go_wp2_with (go_at_call 125; (with_reducible refine IC.out.mono ?_); rintro e w1 ⟨rfl, hb1⟩); go_ret; exact ⟨ret_int (by rw [HE.out]; rfl), hb1⟩
theorem shr_snoc (l : List UInt8) (k : Nat) (h : k < l.length) : shrU (l.take (k + 1)) = shrU (l.take k) ++ (if 32 < l[k].toNat then [fld l[k]] else []) := by
 unfold shrU fold; rw [take_snoc l k h, List.filter_append, List.map_append]; by_cases h2 : 32 < l[k].toNat <;> simp [h2]
theorem shr_len (l : List UInt8) : (shrU l).length ≤ l.length := by
 unfold shrU fold; rw [List.length_map]; exact List.length_filter_le _ _
theorem is_c (l : List UInt8) (hl : l.length ≤ 1000000) (w : World) :
 Calls Tryz.prog 55 #[.string ⟨l.toArray⟩] w fun e w' => e = .returned (.bool (isU l)) ∧ Bl w w' := by
 obtain ⟨i0, hi, hz0, hz1, hz2⟩ := info_parts Tryz.infoU8; have hcv := of_str; have LC := Lib.hid (fun c W => lowerU_c c W); have SC := Lib.hid (fun W => scheme_c (shrU l) (by have := shr_len l; omega) W); have HSL := Lib.hid (schU_le (shrU l)); go_enter Tryz.func55, Tryz.ntmps55; go_wp2; go_loopw [3, 5, 11] (fun v _ i wr => ∃ k : Nat, k ≤ l.length ∧ i = .int .i64 k ∧ BA wr w.heap.size l ∧ w.heap.size < wr.heap.size ∧ wr.ownsRow (w.heap.size + 1) 5 1 v (shrU (l.take k)).length (bcs (shrU (l.take k))) ∧ Below w.heap.size w wr) (fun _ _ i _ => l.length - (intOf i).toNat); case atStart => exact ⟨0, Nat.zero_le _, rfl, BA_brow w.drew l _ _, by simp, World.ownsRow_nil _ _ _ _, (Bl.refl _).drew.alloc _⟩
 case round =>
  obtain ⟨k, hk, rfl, hBA, hws, hown, hbl⟩ := hrel; by_cases hlt : k < l.length
  · have hc := u8_lt l[k]; have hck := hBA k hlt; have HT := Lib.hid (shr_snoc l k hlt); have hkl : (shrU (l.take k)).length ≤ k := by have := shr_len (l.take k); rw [List.length_take] at this; omega
    have HB := Lib.hid hBA; clear hBA; by_cases hu : 32 < l[k].toNat
    · have hu' : (32 : Int) < (l[k].toNat : Int) := by omega
      have HT2 := Lib.hid (show bcs (shrU (l.take (k + 1))) = bcs (shrU (l.take k)) ++ [.int .u8 ((fld l[k]).toNat : Int)] by rw [HT.out, if_pos hu]; unfold bcs; rw [List.map_append]; rfl); have HL := Lib.hid (show (shrU (l.take (k + 1))).length = (shrU (l.take k)).length + 1 by rw [HT.out, if_pos hu]; simp); obtain ⟨d, hd⟩ : ∃ d, d = fld l[k] := ⟨_, rfl⟩; have LJ := Lib.hid (LC.out l[k]); rw [← hd] at HT2 LJ; clear hu hd; obtain ⟨n, hn⟩ : ∃ n, n = (shrU (l.take k)).length := ⟨_, rfl⟩; rw [← hn] at HL hown hkl; clear hn; go_wp2_with (first | (go_at_call 88; (with_reducible refine (LJ.out _).mono ?_); rintro e w2 ⟨rfl, rfl⟩) | (at_builtin; refine wpList_append_own _ rfl _ _ 60 rfl (w.heap.size + 1) 5 i0 (.int .u8 0) 1 1 Tryz.underlying60 hi hz0 hz1 hz2 rfl (by decide) _ _ _ rfl (hown.alloc _) ⟨wr.heap.size, 0, none⟩ 1 1 [.int .u8 (d.toNat : Int)] rfl rfl (new_cells wr #[.int .u8 (d.toNat : Int)] _) (by simp [Value.oneCell']) (by unfold maxLen; omega) (by omega) (by simp; omega) ?_)); intro v' w1 hown' hgrow _; have hB1 : Below (w.heap.size + 1) wr w1 := ((Below.refl _ wr).alloc (by omega) _).grown hgrow (by simp; omega) (fun g hg => (hown.lt g hg).1); have hB' : Below w.heap.size w w1 := Below.trans hbl (Below.mono hB1 (by omega)); have hO : w1.ownsRow (w.heap.size + 1) 5 1 v' (shrU (l.take (k + 1))).length (bcs (shrU (l.take (k + 1)))) := by
       rw [HL.out, HT2.out]; simpa using hown'
      have hBA1 : BA w1 w.heap.size l := fun i hi => (Below.cell hB1 (p := ⟨w.heap.size, i, none⟩) (by show w.heap.size < w.heap.size + 1; omega)).trans (HB.out i hi)
      have hs1 : w.heap.size < w1.heap.size := Nat.lt_of_lt_of_le hws (Below.size hB1); clear hown' hgrow hown; go_wp2; go_roundw; case rel => exact ⟨k + 1, by omega, by go_num, hBA1, hs1, hO, hB'⟩
      case measure => simp [intOf]; omega
    · have hu' : ¬ (32 : Int) < (l[k].toNat : Int) := by omega
      have HT2 := Lib.hid (show shrU (l.take (k + 1)) = shrU (l.take k) by rw [HT.out, if_neg hu, List.append_nil]); clear hu; go_wp2; go_roundw; case rel => exact ⟨k + 1, by omega, by go_num, HB.out, hws, by rw [HT2.out]; exact hown, hbl⟩
      case measure => simp [intOf]; omega
  · have HE := Lib.hid (show l.take k = l from List.take_of_length_le (by omega)); rw [HE.out] at hown; have hcv2 := conv_own wr _ _ (shrU l) hown; obtain ⟨T, hT⟩ : ∃ T, T = shrU l := ⟨_, rfl⟩; have HI := Lib.hid (show isU l = (decide (T.take (schU T) = sHttp) || decide (T.take (schU T) = sHttps) || decide (T.take (schU T) = sMail)) by rw [hT]; rfl); rw [← hT] at SC HSL hcv2; obtain ⟨n, hn⟩ : ∃ n, n = schU T := ⟨_, rfl⟩; rw [← hn] at SC HSL HI; have hnl := HSL.out; have hnl' : (n : Int) ≤ (T.length : Int) := by omega
    clear hcv hown hT hn; go_wp2_with (go_at_call 89; (with_reducible refine (SC.out _).mono ?_); rintro e w2 ⟨rfl, hb2⟩); all_goals
     (go_ret
      refine ⟨ret_bool ?_, Bl.trans hbl hb2⟩; rw [HI.out, Bool.eq_iff_iff]; first | (simp [sHttp, sHttps, sMail, *]; done) | (simp [sHttp, sHttps, sMail, *]; exact decide_eq_true_iff.symm))
def ixB (b : Nat → Bool) (n : Nat) : Int := match (List.range n).find? b with | some i => (i : Int) | none => -1
theorem ixB_hit (b : Nat → Bool) (n k : Nat) (h : k < n) (hk : b k = true) (hb : ∀ j, j < k → b j = false) : ixB b n = k := by
 unfold ixB; have e : (List.range n).find? b = some k := by
  rw [List.find?_range_eq_some]; exact ⟨hk, List.mem_range.2 h, fun j hj => by simp [hb j hj]⟩
 rw [e]
theorem ixB_miss (b : Nat → Bool) (n : Nat) (hb : ∀ j, j < n → b j = false) : ixB b n = -1 := by
 unfold ixB; have e : (List.range n).find? b = none := List.find?_eq_none.2 (fun j hj => by simp [hb j (List.mem_range.1 hj)]); rw [e]
theorem ixB_any (b : Nat → Bool) (n : Nat) : decide (0 ≤ ixB b n) = (List.range n).any b := by
 unfold ixB; cases h : (List.range n).find? b with
 | some i =>
   have h3 : (List.range n).any b = true := List.any_eq_true.2 ⟨i, List.mem_of_find?_eq_some h, List.find?_some h⟩; rw [h3]; simp
 | none =>
   have h3 : (List.range n).any b = false := by
    rw [List.any_eq_false]; intro x hx; exact List.find?_eq_none.1 h x hx
   rw [h3]; simp
theorem any_range {α : Type} (p : α → Bool) (l : List α) (d : α) : ((List.range l.length).any fun i => p (l.getD i d)) = l.any p := by
 rw [Bool.eq_iff_iff, List.any_eq_true, List.any_eq_true]; constructor
 · rintro ⟨i, hi, h⟩; have hi := List.mem_range.1 hi; rw [show l.getD i d = l[i] by simp [List.getD, hi]] at h; exact ⟨_, List.getElem_mem hi, h⟩
 · rintro ⟨x, hx, h⟩; obtain ⟨i, hi, rfl⟩ := List.getElem_of_mem hx; exact ⟨i, List.mem_range.2 hi, by rw [show l.getD i d = l[i] by simp [List.getD, hi]]; exact h⟩
theorem indexF_A (N : Nat) (cap : Array Value) (hcf : ∀ (args : Array Value) (W : World), Sem.run Tryz.prog (callFunc N args) W = .ok (.enter N args) W) (n vc : Nat) (ao : Option Addr) (c0 c1 : Nat → Value) (b : Nat → Bool) (hn : n ≤ 1099511627776) (w : World)
 (hA : ∀ i, i < n → ∃ g o, ao = some ⟨g, o, none⟩ ∧ g < w.heap.size ∧ w.cell? ⟨g, o + i * 2, none⟩ = some (c0 i) ∧ w.cell? ⟨g, o + i * 2 + 1, none⟩ = some (c1 i))
 (hgo : ∀ i, i < n → ∀ W, Bl w W → Calls Tryz.prog N (#[.agg #[c0 i, c1 i]] ++ cap) W fun e w' => e = .returned (.bool (b i)) ∧ Bl W w') :
 Calls Tryz.prog 163 #[.slice ao n vc, .func (.func N) #[] cap] w fun e w' => e = .returned (.int .i64 (ixB b n)) ∧ Bl w w' := by
 have HD := Lib.hid hgo; clear hgo; go_enter Tryz.func163, Tryz.ntmps163; go_wp2; go_loopw [8] (fun i wr => ∃ k : Nat, k ≤ n ∧ i = .int .i64 k ∧ Hid (∀ j, j < k → b j = false) ∧ Bl w wr) (fun i _ => n - (intOf i).toNat); case atStart => exact ⟨0, Nat.zero_le _, rfl, Lib.hid (fun j h => by omega), Bl.refl _⟩
 case round =>
  obtain ⟨k, hk, rfl, HP, hbl⟩ := hrel; by_cases hlt : k < n
  · obtain ⟨g, o, rfl, hg, h1, h2⟩ := hA k hlt; have x1 := (hbl.cells.1 g _ hg).trans h1; have x2 := (hbl.cells.1 g _ hg).trans h2; have HG0 := HD.out k hlt wr hbl; obtain ⟨d0, hd0⟩ : ∃ d, c0 k = d := ⟨_, rfl⟩; obtain ⟨d1, hd1⟩ : ∃ d, c1 k = d := ⟨_, rfl⟩; rw [hd0] at x1; rw [hd1] at x2; rw [hd0, hd1] at HG0; have HG := Lib.hid HG0; clear HG0 h1 h2 hA hd0 hd1; cases hp : b k
    · have HF := Lib.hid hp; rw [hp] at HG; clear hp; go_wp2_with (with_reducible refine HG.out.mono ?_; rintro e w' ⟨rfl, hb'⟩); go_roundw; case rel =>
       refine ⟨k + 1, by omega, by go_num, Lib.hid (fun j hjk => ?_), hbl.trans hb'⟩; by_cases e : j = k
       · subst e; exact HF.out
       · exact HP.out j (by omega)
      case measure => simp [intOf]; omega
    · have HF := Lib.hid hp; rw [hp] at HG; clear hp; go_wp2_with (with_reducible refine HG.out.mono ?_; rintro e w' ⟨rfl, hb'⟩); go_ret; exact ⟨ret_int (ixB_hit b n k hlt HF.out HP.out).symm, hbl.trans hb'⟩
  · go_wp2; go_ret; exact ⟨ret_int (ixB_miss b n (fun j hj => HP.out j (by omega))).symm, hbl⟩
theorem containsF_A (N : Nat) (cap : Array Value) (hcf : ∀ (args : Array Value) (W : World), Sem.run Tryz.prog (callFunc N args) W = .ok (.enter N args) W) (n vc : Nat) (ao : Option Addr) (c0 c1 : Nat → Value) (b : Nat → Bool) (hn : n ≤ 1099511627776) (w : World)
 (hA : ∀ i, i < n → ∃ g o, ao = some ⟨g, o, none⟩ ∧ g < w.heap.size ∧ w.cell? ⟨g, o + i * 2, none⟩ = some (c0 i) ∧ w.cell? ⟨g, o + i * 2 + 1, none⟩ = some (c1 i))
 (hgo : ∀ i, i < n → ∀ W, Bl w W → Calls Tryz.prog N (#[.agg #[c0 i, c1 i]] ++ cap) W fun e w' => e = .returned (.bool (b i)) ∧ Bl W w') :
 Calls Tryz.prog 128 #[.slice ao n vc, .func (.func N) #[] cap] w fun e w' => e = .returned (.bool ((List.range n).any b)) ∧ Bl w w' := by
 have HI := Lib.hid (indexF_A N cap hcf n vc ao c0 c1 b hn w hA hgo); have HX := Lib.hid (ixB_any b n); clear hA hgo; go_enter Tryz.func128, Tryz.ntmps128; go_wp2_with (go_at_call 163; (with_reducible refine HI.out.mono ?_); rintro e w' ⟨rfl, hb'⟩); go_ret; exact ⟨ret_bool HX.out, hb'⟩
theorem indexF_N (N : Nat) (cap : Array Value) (hcf : ∀ (args : Array Value) (W : World), Sem.run Tryz.prog (callFunc N args) W = .ok (.enter N args) W) (n vc : Nat) (ao : Option Addr) (c0 c1 c2 c3 : Nat → Value) (b : Nat → Bool) (hn : n ≤ 1099511627776) (w : World)
 (hA : ∀ i, i < n → ∃ g o, ao = some ⟨g, o, none⟩ ∧ g < w.heap.size ∧ w.cell? ⟨g, o + i * 4, none⟩ = some (c0 i) ∧ w.cell? ⟨g, o + i * 4 + 1, none⟩ = some (c1 i) ∧ w.cell? ⟨g, o + i * 4 + 2, none⟩ = some (c2 i) ∧ w.cell? ⟨g, o + i * 4 + 3, none⟩ = some (c3 i))
 (hgo : ∀ i, i < n → ∀ W, Bl w W → Calls Tryz.prog N (#[.agg #[c0 i, c1 i, c2 i, c3 i]] ++ cap) W fun e w' => e = .returned (.bool (b i)) ∧ Bl W w') :
 Calls Tryz.prog 162 #[.slice ao n vc, .func (.func N) #[] cap] w fun e w' => e = .returned (.int .i64 (ixB b n)) ∧ Bl w w' := by
 have HD := Lib.hid hgo; clear hgo; go_enter Tryz.func162, Tryz.ntmps162; go_wp2; go_loopw [8] (fun i wr => ∃ k : Nat, k ≤ n ∧ i = .int .i64 k ∧ Hid (∀ j, j < k → b j = false) ∧ Bl w wr) (fun i _ => n - (intOf i).toNat); case atStart => exact ⟨0, Nat.zero_le _, rfl, Lib.hid (fun j h => by omega), Bl.refl _⟩
 case round =>
  obtain ⟨k, hk, rfl, HP, hbl⟩ := hrel; by_cases hlt : k < n
  · obtain ⟨g, o, rfl, hg, h1, h2, h3, h4⟩ := hA k hlt; have x1 := (hbl.cells.1 g _ hg).trans h1; have x2 := (hbl.cells.1 g _ hg).trans h2; have x3 := (hbl.cells.1 g _ hg).trans h3; have x4 := (hbl.cells.1 g _ hg).trans h4; have HG0 := HD.out k hlt wr hbl; obtain ⟨d0, hd0⟩ : ∃ d, c0 k = d := ⟨_, rfl⟩; obtain ⟨d1, hd1⟩ : ∃ d, c1 k = d := ⟨_, rfl⟩; obtain ⟨d2, hd2⟩ : ∃ d, c2 k = d := ⟨_, rfl⟩; obtain ⟨d3, hd3⟩ : ∃ d, c3 k = d := ⟨_, rfl⟩; rw [hd0] at x1; rw [hd1] at x2; rw [hd2] at x3; rw [hd3] at x4; rw [hd0, hd1, hd2, hd3] at HG0; have HG := Lib.hid HG0; clear HG0 h1 h2 h3 h4 hA hd0 hd1 hd2 hd3; cases hp : b k
    · have HF := Lib.hid hp; rw [hp] at HG; clear hp; go_wp2_with (with_reducible refine HG.out.mono ?_; rintro e w' ⟨rfl, hb'⟩); go_roundw; case rel =>
       refine ⟨k + 1, by omega, by go_num, Lib.hid (fun j hjk => ?_), hbl.trans hb'⟩; by_cases e : j = k
       · subst e; exact HF.out
       · exact HP.out j (by omega)
      case measure => simp [intOf]; omega
    · have HF := Lib.hid hp; rw [hp] at HG; clear hp; go_wp2_with (with_reducible refine HG.out.mono ?_; rintro e w' ⟨rfl, hb'⟩); go_ret; exact ⟨ret_int (ixB_hit b n k hlt HF.out HP.out).symm, hbl.trans hb'⟩
  · go_wp2; go_ret; exact ⟨ret_int (ixB_miss b n (fun j hj => HP.out j (by omega))).symm, hbl⟩
theorem containsF_N (N : Nat) (cap : Array Value) (hcf : ∀ (args : Array Value) (W : World), Sem.run Tryz.prog (callFunc N args) W = .ok (.enter N args) W) (n vc : Nat) (ao : Option Addr) (c0 c1 c2 c3 : Nat → Value) (b : Nat → Bool) (hn : n ≤ 1099511627776) (w : World)
 (hA : ∀ i, i < n → ∃ g o, ao = some ⟨g, o, none⟩ ∧ g < w.heap.size ∧ w.cell? ⟨g, o + i * 4, none⟩ = some (c0 i) ∧ w.cell? ⟨g, o + i * 4 + 1, none⟩ = some (c1 i) ∧ w.cell? ⟨g, o + i * 4 + 2, none⟩ = some (c2 i) ∧ w.cell? ⟨g, o + i * 4 + 3, none⟩ = some (c3 i))
 (hgo : ∀ i, i < n → ∀ W, Bl w W → Calls Tryz.prog N (#[.agg #[c0 i, c1 i, c2 i, c3 i]] ++ cap) W fun e w' => e = .returned (.bool (b i)) ∧ Bl W w') :
 Calls Tryz.prog 126 #[.slice ao n vc, .func (.func N) #[] cap] w fun e w' => e = .returned (.bool ((List.range n).any b)) ∧ Bl w w' := by
 have HI := Lib.hid (indexF_N N cap hcf n vc ao c0 c1 c2 c3 b hn w hA hgo); have HX := Lib.hid (ixB_any b n); clear hA hgo; go_enter Tryz.func126, Tryz.ntmps126; go_wp2_with (go_at_call 162; (with_reducible refine HI.out.mono ?_); rintro e w' ⟨rfl, hb'⟩); go_ret; exact ⟨ret_bool HX.out, hb'⟩
def ltT (a b : Nm) : Prop := Op.bytesLess a b = true
theorem ltT_irr (a : Nm) : ¬ ltT a a := by
 unfold ltT; induction a with
 | nil => simp [Op.bytesLess]
 | cons c l ih => simp [Op.bytesLess, ih]
theorem ltT_trans : ∀ {a b c : Nm}, ltT a b → ltT b c → ltT a c := by
 unfold ltT; intro a; induction a with
 | nil =>
   intro b c h1 h2; cases c with
   | nil => cases b <;> simp [Op.bytesLess] at h2
   | cons z c => simp [Op.bytesLess]
 | cons x a ih =>
   intro b c h1 h2; cases b with
   | nil => simp [Op.bytesLess] at h1
   | cons y b =>
     cases c with
     | nil => simp [Op.bytesLess] at h2
     | cons z c =>
       simp only [Op.bytesLess, Bool.or_eq_true, decide_eq_true_eq, Bool.and_eq_true, beq_iff_eq] at h1 h2 ⊢; rcases h1 with h1 | ⟨rfl, h1⟩
       · rcases h2 with h2 | ⟨rfl, h2⟩
         · exact .inl (UInt8.lt_trans h1 h2)
         · exact .inl h1
       · rcases h2 with h2 | ⟨rfl, h2⟩
         · exact .inl h2
         · exact .inr ⟨rfl, ih h1 h2⟩
theorem u8_tri (x y : UInt8) : x < y ∨ x = y ∨ y < x := by
 rcases Nat.lt_trichotomy x.toNat y.toNat with h | h | h
 · exact .inl h
 · exact .inr (.inl (UInt8.toNat_inj.1 h))
 · exact .inr (.inr h)
theorem ltT_tot : ∀ (a b : Nm), a ≠ b → ltT a b ∨ ltT b a := by
 unfold ltT; intro a; induction a with
 | nil =>
   intro b h; cases b with
   | nil => exact absurd rfl h
   | cons y b => simp [Op.bytesLess]
 | cons x a ih =>
   intro b h; cases b with
   | nil => simp [Op.bytesLess]
   | cons y b =>
     simp only [Op.bytesLess, Bool.or_eq_true, decide_eq_true_eq, Bool.and_eq_true, beq_iff_eq]; rcases u8_tri x y with h1 | rfl | h1
     · exact .inl (.inl h1)
     · rcases ih b (fun e => h (by rw [e])) with h2 | h2
       · exact .inl (.inr ⟨rfl, h2⟩)
       · exact .inr (.inr ⟨rfl, h2⟩)
     · exact .inr (.inl h1)
theorem cmpT_lt : ∀ (a b : Nm), cmpT a b < 0 ↔ ltT a b := by
 unfold ltT cmpT; intro a; induction a with
 | nil => intro b; cases b <;> simp [Lib.compareBytes, Op.bytesLess]
 | cons x a ih =>
   intro b; cases b with
   | nil => simp [Lib.compareBytes, Op.bytesLess]
   | cons y b =>
     simp only [Lib.compareBytes, Op.bytesLess, Bool.or_eq_true, decide_eq_true_eq, Bool.and_eq_true, beq_iff_eq]; by_cases h1 : x < y
     · rw [if_pos h1]; simp [h1]
     · rw [if_neg h1]; by_cases h2 : y < x
       · rw [if_pos h2]; have : x ≠ y := by rintro rfl; exact h1 h2
         simp [h1, this]
       · rw [if_neg h2, ih b]; have : x = y := by rcases u8_tri x y with h | h | h; exact absurd h h1; exact h; exact absurd h h2
         simp [this]
def Ahd (a b : Ent) : Prop := ordE a b < 0
theorem Ahd_iff (a b : Ent) : Ahd a b ↔ eA b < eA a ∨ eA a = eA b ∧ ltT (eI a) (eI b) := by
 unfold Ahd ordE; split
 · rename_i h; constructor
   · intro h2; exact .inl (by omega)
   · rintro (h2 | ⟨h2, _⟩)
     · omega
     · exact absurd h2 h
 · rename_i h; have h : eA a = eA b := by simpa using h
   rw [cmpT_lt]; constructor
   · intro h2; exact .inr ⟨h, h2⟩
   · rintro (h2 | ⟨_, h2⟩)
     · omega
     · exact h2
theorem Ahd_trans {a b c : Ent} (h : Ahd a b) (k : Ahd b c) : Ahd a c := by
 rw [Ahd_iff] at *; rcases h with h | ⟨h, h'⟩ <;> rcases k with k | ⟨k, k'⟩
 · exact .inl (by omega)
 · exact .inl (by omega)
 · exact .inl (by omega)
 · exact .inr ⟨by omega, ltT_trans h' k'⟩
theorem ordE_nn (a b : Ent) : 0 ≤ ordE a b ↔ ¬ Ahd a b := by unfold Ahd; omega
def Srt (l : List Ent) : Prop := l.Pairwise Ahd
def Ids (l : List Ent) : Prop := l.Pairwise fun a b => eI a ≠ eI b
theorem mem_insA {α : Type} (l : List α) (i : Nat) (x y : α) : y ∈ insA l i x ↔ y = x ∨ y ∈ l := by
 unfold insA; rw [List.mem_append, List.mem_cons]; conv => rhs; rw [← List.take_append_drop i l, List.mem_append]
 exact ⟨fun h => by rcases h with h | h | h; exact .inr (.inl h); exact .inl h; exact .inr (.inr h), fun h => by rcases h with h | h | h; exact .inr (.inl h); exact .inl h; exact .inr (.inr h)⟩
theorem len_insA {α : Type} (l : List α) (i : Nat) (x : α) : (insA l i x).length = l.length + 1 := by
 unfold insA; rw [List.length_append, List.length_cons, List.length_take, List.length_drop]; omega
theorem len_delA {α : Type} (l : List α) (i : Nat) (h : i < l.length) : (delA l i).length = l.length - 1 := by
 unfold delA; rw [List.length_append, List.length_take, List.length_drop]; omega
theorem sub_delA {α : Type} (l : List α) (i : Nat) : (delA l i).Sublist l := by
 have h : (l.take i ++ l.drop (i + 1)).Sublist (l.take i ++ l.drop i) := List.Sublist.append (List.Sublist.refl _) (by
  rw [← List.drop_drop]; exact List.drop_sublist _ _)
 rw [List.take_append_drop] at h; exact h
theorem bs_cut {n : Nat} (p : Nat → Bool) (h : ∀ a b, a ≤ b → b < n → p b = true → p a = true) :
 Lib.bsGo p n 0 n ≤ n ∧ (∀ t, t < Lib.bsGo p n 0 n → p t = true) ∧ ∀ t, Lib.bsGo p n 0 n ≤ t → t < n → p t = false := by
 have H : ∀ (f lo hi : Nat), hi - lo ≤ f → lo ≤ hi → hi ≤ n → (∀ t, t < lo → p t = true) → (∀ t, hi ≤ t → t < n → p t = false) →
  Lib.bsGo p f lo hi ≤ n ∧ (∀ t, t < Lib.bsGo p f lo hi → p t = true) ∧ ∀ t, Lib.bsGo p f lo hi ≤ t → t < n → p t = false := by
  intro f; induction f with
  | zero =>
    intro lo hi h1 h2 h3 h4 h5; have : hi = lo := by omega
    subst this; exact ⟨h3, h4, h5⟩
  | succ f ih =>
    intro lo hi h1 h2 h3 h4 h5; unfold Lib.bsGo; by_cases hlt : lo < hi
    · rw [if_pos hlt]; cases hp : p ((lo + hi) / 2) with
      | true => rw [if_pos rfl]; exact ih _ _ (by omega) (by omega) h3 (fun t ht => h t _ (by omega) (by omega) hp) h5
      | false =>
        rw [if_neg (by simp)]; refine ih _ _ (by omega) (by omega) (by omega) h4 (fun t ht htn => ?_); cases hq : p t with
        | false => rfl
        | true => have := h ((lo + hi) / 2) t ht htn hq; rw [hp] at this; exact absurd this (by simp)
    · rw [if_neg hlt]; have : hi = lo := by omega
      subst this; exact ⟨h3, h4, h5⟩
 exact H n 0 n (by omega) (by omega) (by omega) (fun t ht => by omega) (fun t h1 h2 => by omega)
theorem getD_get {α : Type} (l : List α) (d : α) (i : Nat) (h : i < l.length) : l.getD i d = l[i] := by simp [List.getD, h]
theorem pw_get {α : Type} {R : α → α → Prop} {l : List α} (h : l.Pairwise R) {i j : Nat} (hij : i < j) (hj : j < l.length) : R (l[i]'(by omega)) l[j] := List.pairwise_iff_getElem.1 h i j (by omega) hj hij
theorem plE_some {l : List Ent} {i : Nm} {k : Nat} (h : plE l i = some k) : ∃ hk : k < l.length, eI l[k] = i := by
 obtain ⟨hk, h2, _⟩ := List.findIdx?_eq_some_iff_getElem.1 h; exact ⟨hk, by simpa using h2⟩
theorem plE_none {l : List Ent} {i : Nm} (h : plE l i = none) : ∀ y ∈ l, eI y ≠ i := by
 intro y hy; have := List.findIdx?_eq_none_iff.1 h y hy; simpa using this
end Go.Proofs.YtamdlihgecpbkaaGreatDoor

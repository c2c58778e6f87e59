/- Links: small letters; the first of some bytes, whatever the bytes are. · Words: fields by white bytes, joined by blanks: the library's way and the reference's way are one. · Signs that are put are taken as they were: plain laws. · Tokens: what is printed is read as it was; what is read is right: plain laws. · Words: of a tree: the program's way and the reference's are one on right trees. -/
import Derived.Test.YtamdlihgecpbkaaGreatDoorGrpH
import Derived.Test.YtamdlihgecpbkaaGreatDoorGrpF
import Derived.Test.YtamdlihgecpbkaaGreatDoorShelf
import Derived.Lib.OthersKept
import Derived.Lib.TrimU
import Derived.Lib.FieldsU
import Derived.Test.YtamdlihgecpbkaaGreatDoorGrpD
import Derived.Lib.FieldsP
import Derived.Lib.Join
import Derived.Test.YtamdlihgecpbkaaGreatDoorGrpC
import Derived.Test.YtamdlihgecpbkaaGreatDoorGrpE
set_option maxRecDepth 100000
set_option maxHeartbeats 4000000
namespace Go.Proofs.YtamdlihgecpbkaaGreatDoor
open Go.RowKit
theorem lowerU_c (c : UInt8) (w : World) : Calls Tryz.prog 88 #[.int .u8 (c.toNat : Int)] w fun e w' => e = .returned (.int .u8 ((fld c).toNat : Int)) ∧ w = w' := by
 have hc := u8_lt c; have hf := fld_nat c; by_cases hu : 65 ≤ c.toNat ∧ c.toNat ≤ 90
 · rw [if_pos hu] at hf; have HF := Lib.hid hf; obtain ⟨u1, u2⟩ := hu; have u1' : (65 : Int) ≤ (c.toNat : Int) := by omega
   have u2' : (c.toNat : Int) ≤ 90 := by omega
   clear hf; go_enter Tryz.func88, Tryz.ntmps88; go_wp2; go_ret; exact ⟨ret_int (by rw [HF.out]; omega), rfl⟩
 · rw [if_neg hu] at hf; have HF := Lib.hid hf; clear hf; by_cases h1 : 65 ≤ c.toNat
   · have u1' : (65 : Int) ≤ (c.toNat : Int) := by omega
     have u2' : ¬ (c.toNat : Int) ≤ 90 := by omega
     clear hu; go_enter Tryz.func88, Tryz.ntmps88; go_wp2; go_ret; exact ⟨ret_int (by rw [HF.out]), rfl⟩
   · have u1' : ¬ (65 : Int) ≤ (c.toNat : Int) := by omega
     clear hu; go_enter Tryz.func88, Tryz.ntmps88; go_wp2; go_ret; exact ⟨ret_int (by rw [HF.out]), rfl⟩
def cL : List UInt8 := [58, 47, 63, 35]
theorem cL_stop (c : UInt8) : cL.contains c = stopU c := by
 rw [Bool.eq_iff_iff]; unfold cL stopU; simp only [List.contains_cons, List.contains_nil, Bool.or_false, Bool.or_eq_true, beq_iff_eq, decide_eq_true_eq]; have h : ∀ n : UInt8, c = n ↔ c.toNat = n.toNat := fun n => UInt8.toNat_inj.symm
 rw [h 58, h 47, h 63, h 35]; simp only [show (58 : UInt8).toNat = 58 from rfl, show (47 : UInt8).toNat = 47 from rfl, show (63 : UInt8).toNat = 63 from rfl, show (35 : UInt8).toNat = 35 from rfl]; omega
def ixU (s : List UInt8) : Int := Lib.indexAny s cL
theorem ixU_eq (s : List UInt8) : ixU s = match s.findIdx? stopU with | some i => (i : Int) | none => -1 := by
 unfold ixU; induction s with
 | nil => rfl
 | cons c s ih =>
   rw [Lib.indexAny, cL_stop, List.findIdx?_cons]; cases h : stopU c with
   | true => rfl
   | false =>
     simp only [Bool.false_eq_true, if_false]; rw [ih]; cases s.findIdx? stopU with
     | none => rfl
     | some i =>
       simp only [Option.map_some]; rw [if_neg (by intro e; have := beq_iff_eq.1 e; omega)]
       push_cast
       rfl
theorem dec_hi (s : ByteArray) (p : Nat) (h : 128 ≤ (s.get! p).toNat) : 128 ≤ (Utf8.decode s p).1 ∧ ∀ j, p ≤ j → j < p + (Utf8.decode s p).2 → 128 ≤ (s.get! j).toNat := by
 have one : ∀ j, p ≤ j → j < p + 1 → 128 ≤ (s.get! j).toNat := fun j h1 h2 => by rw [show j = p by omega]; exact h
 have ct : ∀ k, (decide (p + k < s.size) && (s.get! (p + k)).toNat / 64 == 2) = true → 128 ≤ (s.get! (p + k)).toNat := fun k hk => by
  have := beq_iff_eq.1 (Bool.and_eq_true _ _ ▸ hk).2; omega
 unfold Utf8.decode; simp only [Nat.add_zero, Utf8.runeError]; rw [if_neg (by omega)]; split
 · rename_i h1; have k1 := ct 1 (Bool.and_eq_true _ _ ▸ h1).2; split
   · rename_i h2; refine ⟨by omega, fun j h3 h4 => ?_⟩; by_cases e : j = p
     · rw [e]; exact h
     · rw [show j = p + 1 by omega]; exact k1
   · exact ⟨by omega, one⟩
 · split
   · rename_i h1; simp only [Bool.and_eq_true] at h1; have k1 := ct 1 (by simpa using h1.1.2); have k2 := ct 2 (by simpa using h1.2); split
     · rename_i h2; simp only [Bool.and_eq_true, decide_eq_true_eq] at h2; refine ⟨by omega, fun j h3 h4 => ?_⟩; by_cases e : j = p
       · rw [e]; exact h
       · by_cases e2 : j = p + 1
         · rw [e2]; exact k1
         · rw [show j = p + 2 by omega]; exact k2
     · exact ⟨by omega, one⟩
   · split
     · rename_i h1; simp only [Bool.and_eq_true] at h1; have k1 := ct 1 (by simpa using h1.1.1.2); have k2 := ct 2 (by simpa using h1.1.2); have k3 := ct 3 (by simpa using h1.2); split
       · rename_i h2; simp only [Bool.and_eq_true, decide_eq_true_eq] at h2; refine ⟨by omega, fun j h3 h4 => ?_⟩; by_cases e : j = p
         · rw [e]; exact h
         · by_cases e2 : j = p + 1
           · rw [e2]; exact k1
           · by_cases e3 : j = p + 2
             · rw [e3]; exact k2
             · rw [show j = p + 3 by omega]; exact k3
       · exact ⟨by omega, one⟩
     · exact ⟨by omega, one⟩
theorem iter_bl (w : World) (s : ByteArray) (p : Nat) : Bl w (w.iter s p) := (Bl.refl _).alloc _
theorem next_c (w : World) (i : Nat) (hi : i < 4) (ty : TypeId) : (Instr.next (.pointer (some ⟨w.heap.size, 0, none⟩)) true ty).run Tryz.prog (w.iter ⟨cL.toArray⟩ i) = .ok (.tuple #[.bool true, .int .i64 i, .int .i32 ((cL.getD i 0).toNat : Int)]) (w.iter ⟨cL.toArray⟩ (i + 1)) := by
 have h := run_next_ascii (P := Tryz.prog) w ⟨cL.toArray⟩ i ty (by show i < 4; exact hi) (by
  match i, hi with
  | 0, _ => exact (by decide : (58 : UInt8).toNat < 128)
  | 1, _ => exact (by decide : (47 : UInt8).toNat < 128)
  | 2, _ => exact (by decide : (63 : UInt8).toNat < 128)
  | 3, _ => exact (by decide : (35 : UInt8).toNat < 128))
 rw [h]; match i, hi with
 | 0, _ => rfl
 | 1, _ => rfl
 | 2, _ => rfl
 | 3, _ => rfl
theorem ib_none (t : List UInt8) (y : UInt8) (h : ∀ b ∈ t, b ≠ y) : Lib.indexByte t y = -1 := by
 induction t with
 | nil => rfl
 | cons b t ih =>
   have h1 : (b == y) = false := by simpa using h b (by simp)
   rw [Lib.indexByte, h1, ih (fun c hc => h c (List.mem_cons_of_mem _ hc))]; simp
theorem ib_c (t : ByteArray) (y : UInt8) (hy : 128 ≤ y.toNat) (ht : ∀ b ∈ t.data.toList, b.toNat < 128) (W : World) :
 Calls Tryz.prog 184 #[.string t, .int .u8 (y.toNat : Int)] W fun e w' => e = .returned (.int .i64 (-1)) ∧ W = w' := by
 refine (Tryz.strings_IndexByte t (y.toNat : Int) W).mono ?_; rintro e w' ⟨rfl, rfl⟩; refine ⟨ret_int ?_, rfl⟩; have e1 : ((y.toNat : Int)).toNat.toUInt8 = y := by simp
 rw [e1]; exact ib_none _ _ (fun b hb e => by have := ht b hb; rw [e] at this; omega)
theorem enc_shape (r : Int) (hv : Utf8.valid r = true) (h : 128 ≤ r) : (∃ a y : UInt8, Utf8.encode r = ⟨#[a, y]⟩ ∧ 128 ≤ y.toNat) ∨ (∃ a b y : UInt8, Utf8.encode r = ⟨#[a, b, y]⟩ ∧ 128 ≤ y.toNat) ∨ ∃ a b c y : UInt8, Utf8.encode r = ⟨#[a, b, c, y]⟩ ∧ 128 ≤ y.toNat := by
 have hc : ¬ r.toNat < 128 := by omega
 unfold Utf8.encode; simp only [hv, if_true, hc, if_false]; split
 · exact .inl ⟨_, _, rfl, by simp; omega⟩
 · split
   · exact .inr (.inl ⟨_, _, _, rfl, by simp; omega⟩)
   · exact .inr (.inr ⟨_, _, _, _, rfl, by simp; omega⟩)
theorem idxR_e2 (r : Int) (a y : UInt8) (hB : Utf8.encode r = ⟨#[a, y]⟩) (hy : 128 ≤ y.toNat) (q1 : 0 ≤ r) (q2 : ¬ r < 128) (q3 : ¬ r = 65533) (hv : Lib.validRune r = true) (w : World) :
 Calls Tryz.prog 158 #[.string ⟨#[58, 47, 63, 35]⟩, .int .i32 r] w fun e w' => e = .returned (.int .i64 (-1)) ∧ Bl w w' := by
 have VC := Lib.hid (fun W => Tryz.utf8_ValidRune r W); rw [hv] at VC; have hc := u8_lt y; have hne : ¬ ((47 : Int) = (y.toNat : Int)) := by omega
 clear hv; go_enter Tryz.func158, Tryz.ntmps158; go_wp2_with (go_at_call 185; (with_reducible refine (VC.out _).mono ?_); rintro e w' ⟨rfl, rfl⟩); go_step3; go_wp2; refine wp_loop_rounds 1 ?_; rw [rounds_succ]; go_wp2; go_step3; go_wp2_with (first | (go_quiet (fail)) | (go_quiet ((go_at_call 184; first | exact quiet_eq (ib_c _ _ hy (by decide) _) | exact quiet_eq2 (ib_c _ _ hy (by decide) _))))); rw [Exit.noGoto_ret]; go_wp2; rw [Exit.noGoto_ret]; go_ret; exact ⟨rfl, (Qt.refl _).bl.drewN _⟩
theorem idxR_e3 (r : Int) (a b y : UInt8) (hB : Utf8.encode r = ⟨#[a, b, y]⟩) (hy : 128 ≤ y.toNat) (q1 : 0 ≤ r) (q2 : ¬ r < 128) (q3 : ¬ r = 65533) (hv : Lib.validRune r = true) (w : World) :
 Calls Tryz.prog 158 #[.string ⟨#[58, 47, 63, 35]⟩, .int .i32 r] w fun e w' => e = .returned (.int .i64 (-1)) ∧ Bl w w' := by
 have VC := Lib.hid (fun W => Tryz.utf8_ValidRune r W); rw [hv] at VC; have hc := u8_lt y; have hne : ¬ ((63 : Int) = (y.toNat : Int)) := by omega
 clear hv; go_enter Tryz.func158, Tryz.ntmps158; go_wp2_with (go_at_call 185; (with_reducible refine (VC.out _).mono ?_); rintro e w' ⟨rfl, rfl⟩); go_step3; go_wp2; refine wp_loop_rounds 1 ?_; rw [rounds_succ]; go_wp2; go_step3; go_wp2_with (first | (go_quiet (fail)) | (go_quiet ((go_at_call 184; first | exact quiet_eq (ib_c _ _ hy (by decide) _) | exact quiet_eq2 (ib_c _ _ hy (by decide) _))))); rw [Exit.noGoto_ret]; go_wp2; rw [Exit.noGoto_ret]; go_ret; exact ⟨rfl, (Qt.refl _).bl.drewN _⟩
theorem idxR_e4 (r : Int) (a b c y : UInt8) (hB : Utf8.encode r = ⟨#[a, b, c, y]⟩) (hy : 128 ≤ y.toNat) (q1 : 0 ≤ r) (q2 : ¬ r < 128) (q3 : ¬ r = 65533) (hv : Lib.validRune r = true) (w : World) :
 Calls Tryz.prog 158 #[.string ⟨#[58, 47, 63, 35]⟩, .int .i32 r] w fun e w' => e = .returned (.int .i64 (-1)) ∧ Bl w w' := by
 have VC := Lib.hid (fun W => Tryz.utf8_ValidRune r W); rw [hv] at VC; have hc := u8_lt y; have hne : ¬ ((35 : Int) = (y.toNat : Int)) := by omega
 clear hv; go_enter Tryz.func158, Tryz.ntmps158; go_wp2_with (go_at_call 185; (with_reducible refine (VC.out _).mono ?_); rintro e w' ⟨rfl, rfl⟩); go_step3; go_wp2; refine wp_loop_rounds 1 ?_; rw [rounds_succ]; go_wp2; go_step3; go_wp2_with (first | (go_quiet (fail)) | (go_quiet ((go_at_call 184; first | exact quiet_eq (ib_c _ _ hy (by decide) _) | exact quiet_eq2 (ib_c _ _ hy (by decide) _))))); rw [Exit.noGoto_ret]; go_wp2; rw [Exit.noGoto_ret]; go_ret; exact ⟨rfl, (Qt.refl _).bl.drewN _⟩
theorem idxR_inv (r : Int) (q1 : 0 ≤ r) (q2 : ¬ r < 128) (q3 : ¬ r = 65533) (hv : Lib.validRune r = false) (w : World) :
 Calls Tryz.prog 158 #[.string ⟨#[58, 47, 63, 35]⟩, .int .i32 r] w fun e w' => e = .returned (.int .i64 (-1)) ∧ Bl w w' := by
 have VC := Lib.hid (fun W => Tryz.utf8_ValidRune r W); rw [hv] at VC; clear hv; go_enter Tryz.func158, Tryz.ntmps158; go_wp2_with (go_at_call 185; (with_reducible refine (VC.out _).mono ?_); rintro e w' ⟨rfl, rfl⟩); go_ret; exact ⟨rfl, Bl.refl _⟩
theorem idxR_hi (r : Nat) (h : 128 ≤ r) (w : World) :
 Calls Tryz.prog 158 #[.string ⟨#[58, 47, 63, 35]⟩, .int .i32 (r : Int)] w fun e w' => e = .returned (.int .i64 (-1)) ∧ Bl w w' := by
 have q1 : (0 : Int) ≤ (r : Int) := by omega
 have q2 : ¬ (r : Int) < 128 := by omega
 by_cases he : r = 65533
 · subst he; have hnx := next_c w; have hne := fun ty => run_next_end (P := Tryz.prog) w ⟨cL.toArray⟩ 4 ty (by show ¬ 4 < 4; omega)
   have HN := Lib.hid hnx; have HE := Lib.hid hne; clear hnx hne; go_enter Tryz.func158, Tryz.ntmps158; go_wp2
   go_loopg [5, 6] 4 (fun g _ _ wx => ∃ i : Nat, i + g = 4 ∧ wx = w.iter ⟨#[58, 47, 63, 35]⟩ i)
   case atStart => exact ⟨0, rfl, rfl⟩
   case round =>
    obtain ⟨i, hig, rfl⟩ := hrel; cases gk with
    | zero =>
      obtain rfl : i = 4 := by omega
      have hnx := HE.out; unfold cL at hnx; go_wp2; go_ret; exact ⟨rfl, iter_bl _ _ _⟩
    | succ g =>
      have hi : i < 4 := by omega
      have hnx := HN.out i hi; have h2 : (((cL.getD i 0).toNat : Int) == 65533) = false := by
       match i, hi with
       | 0, _ => decide
       | 1, _ => decide
       | 2, _ => decide
       | 3, _ => decide
      obtain ⟨x, hx⟩ : ∃ x : Int, x = ((cL.getD i 0).toNat : Int) := ⟨_, rfl⟩; rw [← hx] at hnx h2; have h3 : x ≠ 65533 := by simpa using h2
      unfold cL at hnx; clear hx; go_wp2
      go_roundg g
      case measure => omega
      case rel => exact ⟨i + 1, by omega, rfl⟩
 · have q3 : ¬ (r : Int) = 65533 := by omega
   cases hv : Lib.validRune (r : Int) with
   | false => exact idxR_inv _ q1 q2 q3 hv w
   | true =>
     have hval : Utf8.valid (r : Int) = true := by
      have : Utf8.valid (r : Int) = Lib.validRune (r : Int) := by
       unfold Lib.validRune at hv ⊢; rw [hv]; unfold Utf8.valid; simp only [decide_eq_true_eq] at hv; simp only [Bool.or_eq_true, Bool.and_eq_true, decide_eq_true_eq]; omega
      rw [this, hv]
     rcases enc_shape (r : Int) hval (by omega) with ⟨a, y, hB, hy⟩ | ⟨a, b, y, hB, hy⟩ | ⟨a, b, c, y, hB, hy⟩
     · exact idxR_e2 _ a y hB hy q1 q2 q3 hv w
     · exact idxR_e3 _ a b y hB hy q1 q2 q3 hv w
     · exact idxR_e4 _ a b c y hB hy q1 q2 q3 hv w
theorem get_at (s : List UInt8) (i : Nat) (h : i < s.length) : (⟨s.toArray⟩ : ByteArray).get! i = s[i] := by
 show s.toArray[i]! = s[i]; rw [getElem!_pos s.toArray i (by simpa using h)]; simp
theorem idxA_short (s : List UInt8) (h8 : s.length ≤ 8) (w : World) :
 Calls Tryz.prog 125 #[.string ⟨s.toArray⟩, .string ⟨#[58, 47, 63, 35]⟩] w fun e w' => e = .returned (.int .i64 (ixU s)) ∧ Bl w w' := by
 have h8z : decide ((8 : Int) < (s.length : Int)) = false := decide_eq_false (by omega); have SC := Lib.hid (fun W => (Tryz.strings_shouldUseASCIISet (s.length : Int) W).mono fun e w' ⟨h1, h2⟩ => (⟨by rw [h1, h8z], h2.symm⟩ : e = Ending.returned (.bool false) ∧ W = w')); have RH := Lib.hid (fun r (h : 128 ≤ r) W => idxR_hi r h W); clear h8z; go_enter Tryz.func125, Tryz.ntmps125; go_wp2_with (go_at_call 159; (with_reducible refine (SC.out _).mono ?_); rintro e w' ⟨rfl, rfl⟩)
 go_loopg [9, 10] s.length (fun g _ _ wx => ∃ i : Nat, i ≤ s.length ∧ s.length ≤ i + g ∧ wx.heap[w.heap.size]? = some (.stringIter ⟨s.toArray⟩ i) ∧ Bl w wx ∧ Hid (Lib.NoAny s cL i))
 case atStart => exact ⟨0, by omega, by omega, World.iter_heap _ _ _, iter_bl _ _ _, Lib.hid (Lib.NoAny.zero _ _)⟩
 case round =>
  obtain ⟨i, hi, hig, hit, hbl, HN⟩ := hrel; have hws : w.heap.size ≤ wr.heap.size := Below.size hbl; by_cases hlt : i < s.length
  · obtain ⟨g, rfl⟩ : ∃ g, gk = g + 1 := ⟨gk - 1, by omega⟩; have hlt' : i < (⟨s.toArray⟩ : ByteArray).size := by simpa [ByteArray.size] using hlt
    obtain ⟨x, hx⟩ : ∃ x : UInt8, s[i] = x := ⟨_, rfl⟩; have HX := Lib.hid (show s[i]? = some x by rw [List.getElem?_eq_getElem hlt, hx]); by_cases ha : x.toNat < 128
    · have hnx := fun ty => Lib.run_next_ascii_at (P := Tryz.prog) wr w.heap.size ⟨s.toArray⟩ i ty hit hlt' (by rw [mk_get, hx]; exact ha)
      replace hnx : ∀ ty, _ = _ := hnx; rw [mk_get, hx] at hnx; have hit2 := Lib.iterAt_heap wr w.heap.size ⟨s.toArray⟩ i (i + 1) hit; have hbl2 : Bl w (wr.iterAt w.heap.size ⟨s.toArray⟩ (i + 1)) := Lib.below_iterAt hbl (Nat.le_refl _) _ _; obtain ⟨W, hW⟩ : ∃ W, wr.iterAt w.heap.size ⟨s.toArray⟩ (i + 1) = W := ⟨_, rfl⟩; rw [hW] at hnx hit2 hbl2; have e1 : ((x.toNat : Int)).toNat.toUInt8 = x := by simp
      have RC := Lib.hid (fun V => (Tryz.strings_IndexRune_ascii ⟨#[58, 47, 63, 35]⟩ (x.toNat : Int) V (by omega) (by omega)).mono fun e w' ⟨h1, h2⟩ => (⟨by rw [h1, e1]; rfl, h2.symm⟩ : e = Ending.returned (.int .i64 (Lib.indexByte cL x)) ∧ V = w')); have HI := Lib.hid (Lib.contains_iff_indexByte cL x); clear e1 hx hW hit hlt'; obtain ⟨k, hk⟩ : ∃ k, k = Lib.indexByte cL x := ⟨_, rfl⟩; rw [← hk] at RC HI; clear hk; by_cases hc : (0 : Int) ≤ k
      · have HC := Lib.hid (show cL.contains x = true by rw [HI.out]; exact decide_eq_true hc); go_wp2_with (go_at_call 158; (with_reducible refine (RC.out _).mono ?_); rintro e w' ⟨rfl, rfl⟩); go_ret; exact ⟨ret_int (Lib.indexAny_hit HN.out HX.out HC.out).symm, hbl2⟩
      · have HC := Lib.hid (show cL.contains x = false by rw [HI.out]; exact decide_eq_false hc); go_wp2_with (go_at_call 158; (with_reducible refine (RC.out _).mono ?_); rintro e w' ⟨rfl, rfl⟩)
        go_roundg g
        case measure => omega
        case rel => exact ⟨i + 1, by omega, by omega, hit2, hbl2, Lib.hid (HN.out.succ HX.out HC.out)⟩
    · obtain ⟨R, hR⟩ : ∃ R, (Utf8.decode ⟨s.toArray⟩ i).1 = R := ⟨_, rfl⟩; obtain ⟨K, hK⟩ : ∃ K, (Utf8.decode ⟨s.toArray⟩ i).2 = K := ⟨_, rfl⟩; have hd := dec_hi ⟨s.toArray⟩ i (by rw [get_at s i hlt, hx]; omega); have hwd := Lib.width_pos ⟨s.toArray⟩ i; have hwn : i + (Utf8.decode ⟨s.toArray⟩ i).2 ≤ (⟨s.toArray⟩ : ByteArray).size := by
       have := Lib.decodeN_le_n' ((⟨s.toArray⟩ : ByteArray).size - i) ((⟨s.toArray⟩ : ByteArray).get! i).toNat ((⟨s.toArray⟩ : ByteArray).get! (i + 1)).toNat ((⟨s.toArray⟩ : ByteArray).get! (i + 2)).toNat ((⟨s.toArray⟩ : ByteArray).get! (i + 3)).toNat (by omega); rw [← Lib.decode_at] at this; omega
      have hnx := fun ty => Lib.run_next_any_at (P := Tryz.prog) wr w.heap.size ⟨s.toArray⟩ i ty hit hlt'
      have hsz : (⟨s.toArray⟩ : ByteArray).size = s.length := by simp [ByteArray.size]
      rw [hR, hK] at hd; rw [hK, hsz] at hwn; rw [hK] at hwd; replace hnx : ∀ ty, _ = _ := hnx; rw [hR, hK] at hnx; have hit2 := Lib.iterAt_heap wr w.heap.size ⟨s.toArray⟩ i (i + K) hit; have hbl2 : Bl w (wr.iterAt w.heap.size ⟨s.toArray⟩ (i + K)) := Lib.below_iterAt hbl (Nat.le_refl _) _ _; obtain ⟨W, hW⟩ : ∃ W, wr.iterAt w.heap.size ⟨s.toArray⟩ (i + K) = W := ⟨_, rfl⟩; rw [hW] at hnx hit2 hbl2; have hlt2 : w.heap.size < W.heap.size := (Array.getElem?_eq_some_iff.1 hit2).1; have HN2 := Lib.hid (show Lib.NoAny s cL (i + K) from fun j b hj hb => by
       by_cases e : j < i
       · exact HN.out j b e hb
       · obtain ⟨hjl, e2⟩ := List.getElem?_eq_some_iff.1 hb; have h3 := hd.2 j (by omega) (by omega); rw [get_at s j hjl, e2] at h3; rw [cL_stop]; unfold stopU; simp; omega)
      have RC := Lib.hid (RH.out R hd.1); clear hR hK hW hit hlt' hd hx ha RH; go_wp2_with (go_at_call 158; (with_reducible refine (RC.out _).mono ?_); rintro e w' ⟨rfl, hb2⟩)
      go_roundg g
      case measure => omega
      case rel => exact ⟨i + K, by omega, by omega, (Below.block hb2 w.heap.size hlt2).trans hit2, hbl2.trans hb2, Lib.hid HN2.out⟩
  · obtain rfl : i = s.length := by omega
    have hne := fun ty => Lib.run_next_end_at (P := Tryz.prog) wr w.heap.size ⟨s.toArray⟩ s.length ty hit (by simp [ByteArray.size])
    clear hit; go_wp2; go_ret; exact ⟨ret_int (by unfold ixU; rw [Lib.indexAny_none HN.out]), hbl⟩
theorem zv_set (w : World) : (zeroValue 180).run Tryz.prog w = .ok (.agg (Array.replicate 256 (.bool false))) w := by kernel_rfl
theorem idxA_c (s : List UInt8) (hs : s.length ≤ 4294967280) (w : World) :
 Calls Tryz.prog 125 #[.string ⟨s.toArray⟩, .string ⟨#[58, 47, 63, 35]⟩] w fun e w' => e = .returned (.int .i64 (ixU s)) ∧ Bl w w' := by
 by_cases h8 : s.length ≤ 8
 · exact idxA_short s h8 w
 · refine (Tryz.strings_IndexAny_long zv_set ⟨s.toArray⟩ ⟨#[58, 47, 63, 35]⟩ w (by decide) (by simp [ByteArray.size]; omega) (by simp [ByteArray.size]; omega) (by decide) (fun j b hj => ?_)).mono ?_
   · have hb : b ∈ cL := List.mem_of_getElem? hj; unfold cL at hb; simp only [List.mem_cons, List.not_mem_nil, or_false] at hb; rcases hb with rfl | rfl | rfl | rfl <;> decide
   · rintro e w' ⟨rfl, rfl⟩; exact ⟨rfl, ((Bl.refl _).alloc _).alloc _⟩
def fdG : List UInt8 → List UInt8 → List (List UInt8)
 | [], cur => if cur = [] then [] else [cur]
 | c :: r, cur => if wht c = true then (if cur = [] then fdG r [] else cur :: fdG r []) else fdG r (cur ++ [c])
def wrn (n : Nat) : Bool := decide (n < 128) && wht n.toUInt8
theorem fdG_run (a : List UInt8) (h : ∀ c ∈ a, wht c = false) : ∀ (r cur : List UInt8), fdG (a ++ r) cur = fdG r (cur ++ a) := by
 induction a with
 | nil => intro r cur; simp
 | cons c a ih =>
   intro r cur; rw [List.cons_append, fdG, if_neg (by rw [h c (by simp)]; simp), ih (fun d hd => h d (List.mem_cons_of_mem _ hd)), List.append_assoc]; rfl
theorem wht_hi {c : UInt8} (h : 128 ≤ c.toNat) : wht c = false := by
 unfold wht; simp only [Bool.or_eq_false_iff, decide_eq_false_iff_not]; omega
theorem dec_lo (s : ByteArray) (p : Nat) (h : (s.get! p).toNat < 128) : Utf8.decode s p = ((s.get! p).toNat, 1) := by
 unfold Utf8.decode; simp only [Nat.add_zero]; rw [if_pos (by simpa using h)]
theorem dec_one (s : ByteArray) (p : Nat) : 1 ≤ (Utf8.decode s p).2 := by
 unfold Utf8.decode; simp only; (repeat' split); all_goals (show 1 ≤ _; first | exact Nat.le_refl _ | exact (by decide : 1 ≤ 2) | exact (by decide : 1 ≤ 3) | exact (by decide : 1 ≤ 4))
theorem get_bytes (l : List UInt8) (p : Nat) (h : p < l.length) : (⟨l.toArray⟩ : ByteArray).get! p = l[p] := by
 show l.toArray[p]! = l[p]; simp [h]
theorem get_out (l : List UInt8) (p : Nat) (h : ¬ p < l.length) : (⟨l.toArray⟩ : ByteArray).get! p = 0 := by
 show l.toArray[p]! = 0; rw [getElem!_neg _ _ (by simpa using h)]; rfl
theorem fd_spans (l : List UInt8) : ∀ (f pos : Nat) (st : Option Nat) (acc : List (Nat × Nat)), l.length ≤ pos + f → pos ≤ l.length → (∀ a, st = some a → a < pos) →
 (Lib.closeSpans ⟨l.toArray⟩ (Lib.spansFromP wrn ⟨l.toArray⟩ f pos st acc)).map (fun x => Lib.pieceU l x.1 x.2) = acc.map (fun x => Lib.pieceU l x.1 x.2) ++ fdG (l.drop pos) (Lib.openPiece l st pos) := by
 have hsz : (⟨l.toArray⟩ : ByteArray).size = l.length := by simp [ByteArray.size]
 have fin : ∀ (pos : Nat) (st : Option Nat) (acc : List (Nat × Nat)), pos = l.length → (∀ a, st = some a → a < pos) →
  (Lib.closeSpans ⟨l.toArray⟩ (acc, st)).map (fun x => Lib.pieceU l x.1 x.2) = acc.map (fun x => Lib.pieceU l x.1 x.2) ++ fdG (l.drop pos) (Lib.openPiece l st pos) := by
  intro pos st acc hp hst; rw [List.drop_of_length_le (by omega), fdG]; cases st with
  | none => simp [Lib.closeSpans, Lib.openPiece]
  | some a =>
    have hne := Lib.pieceU_ne l a pos (hst a rfl) (by omega); rw [if_neg (show Lib.openPiece l (some a) pos ≠ [] from hne)]; simp only [Lib.closeSpans, Lib.openPiece, hsz]; rw [List.map_append, ← hp]; rfl
 intro f; induction f with
 | zero => intro pos st acc h1 h2 hst; exact fin pos st acc (by omega) hst
 | succ f ih =>
   intro pos st acc h1 h2 hst; by_cases hp : pos < l.length
   · unfold Lib.spansFromP; rw [if_pos (show pos < (⟨l.toArray⟩ : ByteArray).size by rw [hsz]; exact hp)]; have hd := List.drop_eq_getElem_cons hp; by_cases hlo : l[pos].toNat < 128
     · have hdec := dec_lo ⟨l.toArray⟩ pos (by rw [get_bytes l pos hp]; exact hlo); rw [get_bytes l pos hp] at hdec; rw [hdec]; have hw : wrn l[pos].toNat = wht l[pos] := by unfold wrn; rw [decide_eq_true hlo]; simp
       simp only [hw]; cases hwt : wht l[pos] with
       | true =>
         rw [if_pos rfl]; cases st with
         | none =>
           simp only; rw [ih _ _ _ (by omega) (by omega) (fun a h => by cases h), hd, fdG, if_pos hwt, if_pos (by rfl)]; rfl
         | some a =>
           simp only; rw [ih _ _ _ (by omega) (by omega) (fun a h => by cases h), hd, fdG, if_pos hwt, if_neg (show Lib.openPiece l (some a) pos ≠ [] from Lib.pieceU_ne l a pos (hst a rfl) (by omega)), List.map_append, List.append_assoc]; rfl
       | false =>
         rw [if_neg (by simp)]; have hg : ∀ a, a ≤ pos → Lib.pieceU l a pos ++ [l[pos]] = Lib.pieceU l a (pos + 1) := fun a ha => by
          rw [← Lib.pieceU_grow l a pos 1 ha, hd]; rfl
         cases st with
         | none =>
           simp only; rw [ih _ _ _ (by omega) (by omega) (fun a h => by cases h; omega), hd, fdG, if_neg (by rw [hwt]; simp)]; have := hg pos (Nat.le_refl _); simp only [Lib.openPiece]; rw [← this]; simp [Lib.pieceU]
         | some a =>
           simp only; rw [ih _ _ _ (by omega) (by omega) (fun b h => by cases h; have := hst a rfl; omega), hd, fdG, if_neg (by rw [hwt]; simp)]; simp only [Lib.openPiece]; rw [hg a (Nat.le_of_lt (hst a rfl))]
     · obtain ⟨r1, r2⟩ := dec_hi ⟨l.toArray⟩ pos (by rw [get_bytes l pos hp]; omega); obtain ⟨n, hn⟩ : ∃ n, n = (Utf8.decode ⟨l.toArray⟩ pos).2 := ⟨_, rfl⟩; rw [← hn] at r2 ⊢; have hn1 : 1 ≤ n := by rw [hn]; exact dec_one _ _
       have hle : pos + n ≤ l.length := by
        rcases Nat.lt_or_ge l.length (pos + n) with q | q
        · have := r2 l.length (by omega) q; rw [get_out l l.length (by omega)] at this; exact absurd this (by decide)
        · exact q
       have hw : wrn (Utf8.decode ⟨l.toArray⟩ pos).1 = false := by unfold wrn; rw [decide_eq_false (by omega)]; rfl
       rw [hw, if_neg (by simp)]; have hnw : ∀ c ∈ (l.drop pos).take n, wht c = false := fun c hc => by
        obtain ⟨j, hj, rfl⟩ := List.getElem_of_mem hc; rw [List.length_take, List.length_drop] at hj; rw [List.getElem_take, List.getElem_drop]; have := r2 (pos + j) (by omega) (by omega); rw [get_bytes l (pos + j) (by omega)] at this; exact wht_hi this
       have hsp : l.drop pos = (l.drop pos).take n ++ l.drop (pos + n) := by rw [← List.drop_drop, List.take_append_drop]
       cases st with
       | none =>
         simp only; rw [ih _ _ _ (by omega) (by omega) (fun a h => by cases h; omega)]; conv => rhs; rw [hsp]
         rw [fdG_run _ hnw]; simp only [Lib.openPiece]; rw [← Lib.pieceU_grow l pos pos n (Nat.le_refl _)]; simp [Lib.pieceU]
       | some a =>
         simp only; have ha := hst a rfl; rw [ih _ _ _ (by omega) (by omega) (fun b h => by cases h; omega)]; conv => rhs; rw [hsp]
         rw [fdG_run _ hnw]; simp only [Lib.openPiece]; rw [← Lib.pieceU_grow l a pos n (Nat.le_of_lt ha)]
   · rw [Lib.spansFromP_end _ _ _ _ _ _ (by rw [hsz]; exact hp)]; exact fin pos st acc (by omega) hst
theorem fd_lib (l : List UInt8) : (Lib.goFieldsP wrn ⟨l.toArray⟩).map (·.data.toList) = fdG l [] := by
 have h := fd_spans l l.length 0 none [] (by omega) (by omega) (fun a h => by cases h); have hsz : (⟨l.toArray⟩ : ByteArray).size = l.length := by simp [ByteArray.size]
 unfold Lib.goFieldsP Lib.spansOfP; rw [hsz, List.map_map]; simp only [List.map_nil, List.nil_append, List.drop_zero, Lib.openPiece] at h; rw [← h]; refine List.map_congr_left fun x _ => ?_
 simp [Function.comp, Lib.pieceU, ByteArray.extract_mk]
def wsG : List UInt8 → List UInt8 × Bool → List UInt8
 | [], st => st.1
 | c :: r, st => if wht c = true then wsG r (st.1, true) else wsG r ((if st.2 = true ∧ st.1 ≠ [] then st.1 ++ [32] else st.1) ++ [c], false)
def jnW (l : List (List UInt8)) : List UInt8 := Lib.join l [32]
theorem jn_snoc (F : List (List UInt8)) (x : List UInt8) : jnW (F ++ [x]) = if F = [] then x else jnW F ++ [32] ++ x := by
 unfold jnW Lib.join; cases F with
 | nil => simp [List.intercalate]
 | cons a F =>
   rw [if_neg (by simp)]; simp only [List.intercalate]; induction F generalizing a with
   | nil => simp
   | cons b F ih => simp only [List.cons_append, List.intersperse] at ih ⊢; simp [ih b, List.append_assoc]
theorem jn_ne {F : List (List UInt8)} (h : F ≠ []) (hn : ∀ x ∈ F, x ≠ []) : jnW F ≠ [] := by
 obtain ⟨G, x, rfl⟩ : ∃ G x, F = G ++ [x] := ⟨F.dropLast, F.getLast h, (List.dropLast_concat_getLast h).symm⟩; rw [jn_snoc]; split
 · exact hn x (by simp)
 · simp
theorem ws_both (l : List UInt8) : ∀ (F : List (List UInt8)), (∀ x ∈ F, x ≠ []) →
 (∀ cur, cur ≠ [] → wsG l (jnW (F ++ [cur]), false) = jnW (F ++ fdG l cur)) ∧ wsG l (jnW F, true) = jnW (F ++ fdG l []) ∧ (F = [] → wsG l ([], false) = jnW (fdG l [])) := by
 induction l with
 | nil =>
   intro F hF; refine ⟨fun cur hc => ?_, ?_, fun _ => ?_⟩
   · rw [wsG, fdG, if_neg hc]
   · rw [wsG, fdG, if_pos rfl, List.append_nil]
   · rw [wsG, fdG, if_pos rfl]; rfl
 | cons c l ih =>
   intro F hF; cases hw : wht c with
   | true =>
     refine ⟨fun cur hc => ?_, ?_, fun h0 => ?_⟩
     · rw [wsG, if_pos hw, fdG, if_pos hw, if_neg hc]; have := (ih (F ++ [cur]) (fun x hx => by rcases List.mem_append.1 hx with h | h; exact hF x h; simp at h; rw [h]; exact hc)).2.1; rw [this, List.append_assoc]; rfl
     · rw [wsG, if_pos hw, fdG, if_pos hw, if_pos rfl]; exact (ih F hF).2.1
     · rw [wsG, if_pos hw, fdG, if_pos hw, if_pos rfl]; have := (ih [] (fun x hx => by simp at hx)).2.1; exact this
   | false =>
     have hwn : ¬ wht c = true := by rw [hw]; simp
     refine ⟨fun cur hc => ?_, ?_, fun h0 => ?_⟩
     · rw [wsG, if_neg hwn, fdG, if_neg hwn, if_neg (by simp)]; have := (ih F hF).1 (cur ++ [c]) (by simp); rw [← this]; congr 2; rw [jn_snoc, jn_snoc]; split <;> simp [List.append_assoc]
     · rw [wsG, if_neg hwn, fdG, if_neg hwn]; have := (ih F hF).1 [c] (by simp); rw [List.nil_append, ← this]; congr 2; rw [jn_snoc]; by_cases h0 : F = []
       · subst h0; rfl
       · rw [if_pos ⟨rfl, jn_ne h0 hF⟩, if_neg h0]
     · rw [wsG, if_neg hwn, fdG, if_neg hwn, if_neg (by simp)]; have := (ih [] (fun x hx => by simp at hx)).1 [c] (by simp); exact this
theorem ws_eq (l : List UInt8) : wsG l ([], false) = jnW ((Lib.goFieldsP wrn ⟨l.toArray⟩).map (·.data.toList)) := by
 rw [fd_lib]; exact (ws_both l [] (fun x hx => by simp at hx)).2.2 rfl
theorem sgn_amp (r : List UInt8) : sgn (38 :: 97 :: 109 :: 112 :: 59 :: r) = ([38], 5, true) := rfl
theorem sgn_lt (r : List UInt8) : sgn (38 :: 108 :: 116 :: 59 :: r) = ([60], 4, true) := rfl
theorem sgn_gt (r : List UInt8) : sgn (38 :: 103 :: 116 :: 59 :: r) = ([62], 4, true) := rfl
theorem sgn_quot (r : List UInt8) : sgn (38 :: 113 :: 117 :: 111 :: 116 :: 59 :: r) = ([34], 6, true) := rfl
theorem putc_38 : putc 38 = [38, 97, 109, 112, 59] := rfl
theorem putc_60 : putc 60 = [38, 108, 116, 59] := rfl
theorem putc_62 : putc 62 = [38, 103, 116, 59] := rfl
theorem putc_34 : putc 34 = [38, 113, 117, 111, 116, 59] := rfl
theorem spc_cases {c : UInt8} (h : spc c = true) : c = 38 ∨ c = 60 ∨ c = 62 ∨ c = 34 := by
 simp only [spc, Bool.or_eq_true, beq_iff_eq] at h; rcases h with ((h | h) | h) | h <;> simp [h]
theorem Tk_put_app (s r : List UInt8) : Tk (PutL s ++ r) = (s ++ (Tk r).1, (Tk r).2) := by
 induction s with
 | nil => rfl
 | cons c s ih =>
   rw [show PutL (c :: s) = putc c ++ PutL s from rfl, List.append_assoc]; cases hc : spc c
   · rw [putc_plain hc, List.singleton_append, Tk_plain _ _ (by rintro rfl; exact absurd hc (by decide)), ih]; rfl
   · rcases spc_cases hc with rfl | rfl | rfl | rfl
     · rw [putc_38]; simp only [List.cons_append, List.nil_append]; rw [Tk_amp, sgn_amp]; simp only [show 5 - 1 = 4 from rfl, List.drop_succ_cons, List.drop_zero, ih, Bool.true_and, List.cons_append, List.nil_append]
     · rw [putc_60]; simp only [List.cons_append, List.nil_append]; rw [Tk_amp, sgn_lt]; simp only [show 4 - 1 = 3 from rfl, List.drop_succ_cons, List.drop_zero, ih, Bool.true_and, List.cons_append, List.nil_append]
     · rw [putc_62]; simp only [List.cons_append, List.nil_append]; rw [Tk_amp, sgn_gt]; simp only [show 4 - 1 = 3 from rfl, List.drop_succ_cons, List.drop_zero, ih, Bool.true_and, List.cons_append, List.nil_append]
     · rw [putc_34]; simp only [List.cons_append, List.nil_append]; rw [Tk_amp, sgn_quot]; simp only [show 6 - 1 = 5 from rfl, List.drop_succ_cons, List.drop_zero, ih, Bool.true_and, List.cons_append, List.nil_append]
theorem Tk_put (s : List UInt8) : Tk (PutL s) = (s, true) := by
 have := Tk_put_app s []; rw [List.append_nil] at this; rw [this]; simp [Tk_nil]
theorem PutL_no (s : List UInt8) (c : UInt8) (h : c ∈ PutL s) : c ≠ 60 ∧ c ≠ 62 ∧ c ≠ 34 := by
 obtain ⟨x, _, hx⟩ := List.mem_flatMap.1 h; cases hc : spc x
 · rw [putc_plain hc, List.mem_singleton] at hx; subst hx; refine ⟨?_, ?_, ?_⟩ <;> (rintro rfl; exact absurd hc (by decide))
 · rcases spc_cases hc with rfl | rfl | rfl | rfl
   · rw [putc_38] at hx; clear h; revert c; decide
   · rw [putc_60] at hx; clear h; revert c; decide
   · rw [putc_62] at hx; clear h; revert c; decide
   · rw [putc_34] at hx; clear h; revert c; decide
theorem tw_app {α : Type} (p : α → Bool) (a : List α) (c : α) (r : List α) (ha : a.all p = true) (hc : p c = false) : (a ++ c :: r).takeWhile p = a ∧ (a ++ c :: r).dropWhile p = c :: r := by
 induction a with
 | nil => simp [hc]
 | cons x a ih =>
   simp only [List.all_cons, Bool.and_eq_true] at ha; have := ih ha.2; simp [ha.1, this.1, this.2]
theorem nmc_facts {c : UInt8} (h : nmc c = true) : wht c = false ∧ wsl c = false ∧ nch c = true ∧ tch c = true ∧ vch c = true ∧ fld c = c := by
 have h' : (97 ≤ c.toNat ∧ c.toNat ≤ 122) ∨ (48 ≤ c.toNat ∧ c.toNat ≤ 57) ∨ c.toNat = 45 := by
  simp only [nmc, lwr, dgt, Bool.or_eq_true, Bool.and_eq_true, decide_eq_true_eq] at h; omega
 have hw : wht c = false := by simp [wht]; omega
 refine ⟨hw, ?_, ?_, ?_, ?_, ?_⟩
 · simp [wsl, hw]; omega
 · simp [nch, hw]; omega
 · simp [tch, hw]; omega
 · simp [vch, hw]; omega
 · unfold fld; rw [if_neg (by omega)]
theorem lwr_nmc {c : UInt8} (h : lwr c = true) : nmc c = true := by simp [nmc, h]
theorem isNm_cons {l : List UInt8} (h : isNm l = true) : ∃ c r, l = c :: r ∧ lwr c = true ∧ r.all nmc = true ∧ r.length ≤ 19 := by
 cases l with
 | nil => simp [isNm] at h
 | cons c r => simp only [isNm, Bool.and_eq_true, decide_eq_true_eq] at h; exact ⟨c, r, rfl, h.1.1, h.1.2, h.2⟩
theorem isNm_all {l : List UInt8} (h : isNm l = true) : l.all nmc = true := by
 obtain ⟨c, r, rfl, h1, h2, _⟩ := isNm_cons h; simp [lwr_nmc h1, h2]
theorem all_imp {l : List UInt8} {p q : UInt8 → Bool} (h : l.all p = true) (hpq : ∀ c, p c = true → q c = true) : l.all q = true := by
 rw [List.all_eq_true] at *; exact fun c hc => hpq c (h c hc)
theorem fold_nm {l : List UInt8} (h : l.all nmc = true) : fold l = l := by
 induction l with
 | nil => rfl
 | cons c l ih => simp only [List.all_cons, Bool.and_eq_true] at h; simp only [fold, List.map_cons] at *; rw [(nmc_facts h.1).2.2.2.2.2, ih h.2]
theorem put_no34 (v : List UInt8) : (PutL v).all (· != 34) = true := by
 rw [List.all_eq_true]; intro c hc; simpa using (PutL_no v c hc).2.2
theorem valOf_quoted (v r : List UInt8) : valOf (34 :: PutL v ++ 34 :: r) = some (PutL v, r) := by
 have h := tw_app (· != 34) (PutL v) 34 r (put_no34 v) (by simp); unfold valOf; rw [List.cons_append, List.dropWhile_cons_of_neg (by decide)]; simp only [true_or, if_true, h.1, h.2]
theorem oneAt_written (c : UInt8) (n v r : List UInt8) (hc : lwr c = true) (hn : n.all nmc = true) : oneAt c (n ++ 61 :: 34 :: PutL v ++ 34 :: r) = some ((c :: n, v), r) := by
 have h1 := tw_app nch n 61 (34 :: PutL v ++ 34 :: r) (all_imp hn fun c h => (nmc_facts h).2.2.1) (by decide); unfold oneAt; rw [List.append_assoc, List.cons_append, h1.1, h1.2, List.dropWhile_cons_of_neg (by decide)]; simp only [if_true, valOf_quoted, Tk_put]; rw [fold_nm (by simp [lwr_nmc hc, hn])]
theorem atEF_cons {p : List Atr} {a : Atr} {l : List Atr} (h : atEF p (a :: l) = 0) : isNm a.1 = true ∧ (p.any fun x => x.1 == a.1) = false ∧ atEF (p ++ [a]) l = 0 := by
 unfold atEF at h; cases h1 : isNm a.1
 · rw [h1] at h; simp at h
 · rw [h1] at h; simp only [Bool.true_eq_false, if_false] at h; split at h
   · simp at h
   · rename_i h2; exact ⟨rfl, Bool.eq_false_iff.2 h2, h⟩
theorem atP_written (al : List Atr) : ∀ (out : List Atr) (r : List UInt8), atEF out al = 0 → atP (atW al ++ 62 :: r) out = some (out ++ al, r) := by
 induction al with
 | nil =>
   intro out r _; rw [List.append_nil]; exact atP_end (by simp [atW, wsl, wht])
 | cons a al ih =>
   intro out r h; obtain ⟨h1, h2, h3⟩ := atEF_cons h; obtain ⟨n, v⟩ := a; obtain ⟨c, m, rfl, hc, hm, _⟩ := isNm_cons h1; have hw := nmc_facts (lwr_nmc hc); have e : atW ((c :: m, v) :: al) ++ 62 :: r = 32 :: c :: (m ++ 61 :: 34 :: PutL v ++ 34 :: (atW al ++ 62 :: r)) := by simp [atW]
   have hd : (32 :: c :: (m ++ 61 :: 34 :: PutL v ++ 34 :: (atW al ++ 62 :: r))).dropWhile wsl = c :: (m ++ 61 :: 34 :: PutL v ++ 34 :: (atW al ++ 62 :: r)) := by
    rw [List.dropWhile_cons_of_pos (by decide), List.dropWhile_cons_of_neg (by simp [hw.2.1])]
   rw [e, atP_go hd (by rintro rfl; exact absurd hc (by decide)) (oneAt_written c m v _ hc hm)]; have ha : addA out (c :: m, v) = out ++ [(c :: m, v)] := by
    unfold addA; rw [h1, h2]; rfl
   rw [ha, ih _ _ h3, List.append_assoc]; rfl
theorem ltr_lwr {c : UInt8} (h : lwr c = true) : ltr c = true := by simp [ltr, h]
theorem atW_head (al : List Atr) (r : List UInt8) : ∃ c t, atW al ++ 62 :: r = c :: t ∧ tch c = false := by
 cases al with
 | nil => exact ⟨62, r, rfl, by decide⟩
 | cons a al => exact ⟨32, _, rfl, by decide⟩
theorem tagP_open (n : List UInt8) (al : List Atr) (r : List UInt8) (hn : isNm n = true) (ha : atE al = 0) : tagP (n ++ atW al ++ 62 :: r) = some (some (some (2, n, al, []), r)) := by
 obtain ⟨c, m, rfl, hc, hm, _⟩ := isNm_cons hn; obtain ⟨d, t, e, hd⟩ := atW_head al r; have hall : (c :: m).all tch = true := all_imp (isNm_all hn) fun c h => (nmc_facts h).2.2.2.1
 have h1 := tw_app tch (c :: m) d t hall hd; rw [← e] at h1; rw [List.append_assoc]; simp only [List.cons_append] at h1 ⊢; rw [tagP_cons, if_pos (ltr_lwr hc), h1.1, h1.2, atP_written al [] r ha, fold_nm (isNm_all hn)]; rfl
theorem cutS_62 (a r : List UInt8) (h : 62 ∉ a) : cutS [62] (a ++ 62 :: r) = some r := by
 induction a with
 | nil => simp [cutS, pre]
 | cons c a ih =>
   simp only [List.mem_cons, not_or] at h; rw [List.cons_append]; unfold cutS; rw [if_neg (by simp [pre]; exact fun e => h.1 e), ih h.2]
theorem tagP_close (n r : List UInt8) (hn : isNm n = true) : tagP (47 :: n ++ 62 :: r) = some (some (some (3, n, [], []), r)) := by
 obtain ⟨c, m, rfl, hc, hm, _⟩ := isNm_cons hn; have hall : (c :: m).all tch = true := all_imp (isNm_all hn) fun c h => (nmc_facts h).2.2.2.1
 have h1 := tw_app tch (c :: m) 62 r hall (by decide); simp only [List.cons_append] at h1 ⊢; rw [tagP_cons, if_neg (by decide), if_pos ⟨rfl, by simp [ltr_lwr hc]⟩, h1.1, h1.2]; have := cutS_62 [] r (by simp); simp only [List.nil_append] at this; rw [this, fold_nm (isNm_all hn)]; rfl
theorem put_no60 (v : List UInt8) : 60 ∉ PutL v := fun h => (PutL_no v 60 h).1 rfl
theorem flsh_put (x : List UInt8) (hx : x ≠ []) (out : List Tok) : flsh (PutL x) out = out ++ [(1, [], [], x)] := by
 unfold flsh; rw [Tk_put]; rw [if_neg hx]
theorem flsh_nil (out : List Tok) : flsh [] out = out := by unfold flsh; rw [Tk_nil]; rfl
theorem tkE_cases {t : Tok} (h : tkE t = 0) : (∃ x, x ≠ [] ∧ t = (1, [], [], x)) ∨ (∃ n al, isNm n = true ∧ atE al = 0 ∧ t = (2, n, al, [])) ∨ (∃ n, isNm n = true ∧ t = (3, n, [], [])) := by
 obtain ⟨k, n, al, x⟩ := t; unfold tkE at h; simp only [] at h; split at h
 · simp at h
 rename_i h1; split at h
 · simp at h
 rename_i h2; simp only [not_or, not_and, Decidable.not_not, ne_eq] at h2; obtain ⟨h2, h3, h4⟩ := h2; split at h
 · rename_i h5; subst h5; obtain ⟨rfl, rfl, hx⟩ := h2 rfl; exact Or.inl ⟨x, hx, rfl⟩
 rename_i h5; have hx := h3 h5; split at h
 · simp at h
 rename_i h6; have h6 : isNm n = true := by simpa using h6
 have : k = 2 ∨ k = 3 := by omega
 rcases this with rfl | rfl
 · exact Or.inr (Or.inl ⟨n, al, h6, h, by rw [hx]⟩)
 · exact Or.inr (Or.inr ⟨n, h6, by rw [hx, h4 rfl]⟩)
theorem tk_written (l : List Tok) : ∀ (k : Int) (text : List UInt8) (out : List Tok), tkEF k l = 0 → (text = [] ∨ k = 1 ∧ ∃ x, x ≠ [] ∧ text = PutL x) → tkP (tksW l) text out = flsh text out ++ l := by
 induction l with
 | nil => intro k text out _ _; rw [List.append_nil]; rfl
 | cons t l ih =>
   intro k text out h ht; unfold tkEF at h; by_cases he : tkE t = 0
   · simp only [he, ne_eq, not_true, if_false] at h; by_cases hk : t.1 = 1 ∧ k = 1
     · rw [if_pos hk] at h; simp at h
     · rw [if_neg hk] at h; have e : tksW (t :: l) = tkW t ++ tksW l := by simp [tksW]
       rw [e]; rcases tkE_cases he with ⟨x, hx, rfl⟩ | ⟨n, al, hn, ha, rfl⟩ | ⟨n, hn, rfl⟩
       · rcases ht with rfl | ⟨rfl, _⟩
         · rw [show tkW (1, [], [], x) = PutL x from rfl, tkP_run _ _ _ _ (put_no60 x), List.nil_append, ih 1 _ _ h (Or.inr ⟨rfl, x, hx, rfl⟩), flsh_put x hx, flsh_nil]; simp
         · exact absurd ⟨rfl, rfl⟩ hk
       · have e2 : tkW (2, n, al, []) ++ tksW l = 60 :: (n ++ atW al ++ 62 :: tksW l) := by simp [tkW]
         rw [e2, tkP_tag _ _ _ _ _ (tagP_open n al _ hn ha) hn, ih 2 _ _ h (Or.inl rfl), flsh_nil]; simp
       · have e2 : tkW (3, n, [], []) ++ tksW l = 60 :: (47 :: n ++ 62 :: tksW l) := by simp [tkW]
         rw [e2, tkP_tag _ _ _ _ _ (tagP_close n _ hn) hn, ih 3 _ _ h (Or.inl rfl), flsh_nil]; simp
   · simp only [he, ne_eq, not_false_eq_true, if_true] at h
theorem TokL_written (l : List Tok) (h : ckE l = 0) : TokL (tksW l) = l := by
 unfold ckE at h; split at h
 · simp at h
 · have := tk_written l 0 [] [] h (Or.inl rfl); rw [flsh_nil] at this; exact this
def lastK (l : List Tok) : Int := match l.getLast? with | some t => t.1 | none => 0
theorem lastK_snoc (l : List Tok) (t : Tok) : lastK (l ++ [t]) = t.1 := by simp [lastK]
theorem tkEF_snoc (l : List Tok) (t : Tok) : ∀ k : Int, tkEF k l = 0 → tkE t = 0 → ¬(t.1 = 1 ∧ (if l = [] then k else lastK l) = 1) → tkEF k (l ++ [t]) = 0 := by
 induction l with
 | nil =>
   intro k _ ht hk; simp only [List.nil_append, tkEF, ht, ne_eq, not_true, if_false]; rw [if_pos rfl] at hk; rw [if_neg hk]
 | cons a l ih =>
   intro k h ht hk; simp only [List.cons_append]; unfold tkEF at h ⊢; by_cases he : tkE a = 0
   · simp only [he, ne_eq, not_true, if_false] at h ⊢; by_cases hk2 : a.1 = 1 ∧ k = 1
     · rw [if_pos hk2] at h; simp at h
     · rw [if_neg hk2] at h ⊢; refine ih a.1 h ht ?_; rw [if_neg (by simp)] at hk; rintro ⟨h1, h2⟩; refine hk ⟨h1, ?_⟩; cases l with
       | nil => simpa [lastK] using h2
       | cons b l => rw [if_neg (by simp)] at h2; simpa [lastK] using h2
   · simp only [he, ne_eq, not_false_eq_true, if_true] at h
def okT (l : List Tok) : Prop := tkEF 0 l = 0 ∧ (l = [] ∨ lastK l ≠ 1)
theorem okT_flsh {l : List Tok} (h : okT l) (x : List UInt8) : tkEF 0 (flsh x l) = 0 := by
 unfold flsh; split
 · exact h.1
 · rename_i hx; refine tkEF_snoc l _ 0 h.1 (by simp [tkE, hx]) ?_; rintro ⟨_, h2⟩; split at h2
   · exact absurd h2 (by decide)
   · rcases h.2 with h3 | h3
     · contradiction
     · exact h3 h2
theorem okT_tag {l : List Tok} (h : okT l) (x : List UInt8) (t : Tok) (ht : tkE t = 0) (hk : t.1 ≠ 1) : okT (flsh x l ++ [t]) :=
 ⟨tkEF_snoc _ _ 0 (okT_flsh h x) ht (fun hh => hk hh.1), Or.inr (by rw [lastK_snoc]; exact hk)⟩
theorem atEF_snoc (l : List Atr) (a : Atr) (ha : isNm a.1 = true) : ∀ p : List Atr, atEF p l = 0 → ((p ++ l).any fun x => x.1 == a.1) = false → atEF p (l ++ [a]) = 0 := by
 induction l with
 | nil =>
   intro p _ hd; rw [List.append_nil] at hd; simp only [List.nil_append, atEF, ha, Bool.true_eq_false, if_false, hd, Bool.false_eq_true]
 | cons b l ih =>
   intro p h hd; obtain ⟨h1, h2, h3⟩ := atEF_cons h; simp only [List.cons_append]; unfold atEF; rw [h1, h2]; simp only [Bool.true_eq_false, if_false, Bool.false_eq_true]; exact ih _ h3 (by rw [List.append_assoc]; simpa using hd)
theorem addA_ok {out : List Atr} (h : atE out = 0) (a : Atr) : atE (addA out a) = 0 := by
 unfold addA; split
 · rename_i hh; simp only [Bool.and_eq_true, Bool.not_eq_true'] at hh; exact atEF_snoc out a hh.1 [] h (by simpa using hh.2)
 · exact h
theorem atF_ok (k : Nat) : ∀ (t : List UInt8) (out l : List Atr) (r : List UInt8), atE out = 0 → atF k t out = some (l, r) → atE l = 0 := by
 induction k with
 | zero => intro t out l r _ h; simp [atF] at h
 | succ k ih =>
   intro t out l r ho h; unfold atF at h; split at h
   · cases h
   · split at h
     · simp only [Option.some.injEq, Prod.mk.injEq] at h; obtain ⟨rfl, _⟩ := h; exact ho
     · split at h
       · cases h
       · exact ih _ _ _ _ (addA_ok ho _) h
theorem tagP_ok (r u : List UInt8) (t : Tok) (h : tagP r = some (some (some t, u))) (hn : isNm t.2.1 = true) : tkE t = 0 ∧ t.1 ≠ 1 := by
 unfold tagP at h; split at h
 · cases h
 · rename_i c s; split at h
   · cases e : atP ((c :: s).dropWhile tch) [] with
     | none => rw [e] at h; simp at h
     | some x =>
       rw [e] at h; simp only [Option.map_some, Option.some.injEq, Prod.mk.injEq] at h; obtain ⟨rfl, _⟩ := h; have ha := atF_ok _ _ [] x.1 x.2 rfl e; simp only [] at hn; refine ⟨?_, by simp⟩; simp [tkE, hn, ha]
   split at h
   · cases e : cutS [62] (s.dropWhile tch) with
     | none => rw [e] at h; simp at h
     | some x =>
       rw [e] at h; simp only [Option.map_some, Option.some.injEq, Prod.mk.injEq] at h; obtain ⟨rfl, _⟩ := h; simp only [] at hn; refine ⟨?_, by simp⟩; simp [tkE, hn, atE, atEF]
   split at h
   · cases e : cutS [45, 45, 62] s with
     | none => rw [e] at h; simp at h
     | some x => rw [e] at h; simp at h
   split at h
   · cases e : cutS [62] (c :: s) with
     | none => rw [e] at h; simp at h
     | some x => rw [e] at h; simp at h
   · cases h
theorem flsh_len (x : List UInt8) (l : List Tok) : (flsh x l).length ≤ l.length + (if x = [] then 0 else 1) := by
 unfold flsh; by_cases hx : x = []
 · subst hx; simp [Tk_nil]
 · rw [if_neg hx]; split <;> simp
theorem tkF_right (k : Nat) : ∀ (s text : List UInt8) (out : List Tok), s.length ≤ k → okT out → tkEF 0 (tkF k s text out) = 0 ∧ (tkF k s text out).length ≤ out.length + (if text = [] then 0 else 1) + s.length := by
 induction k with
 | zero => intro s text out hs h; exact ⟨okT_flsh h text, by have := flsh_len text out; simp only [tkF]; omega⟩
 | succ k ih =>
   intro s text out hs h; cases s with
   | nil => exact ⟨okT_flsh h text, by have := flsh_len text out; simp only [tkF]; omega⟩
   | cons c r =>
     simp only [List.length_cons, Nat.add_le_add_iff_right] at hs ⊢; have h01 : (if text = [] then 0 else 1) ≤ 1 := by split <;> omega
     unfold tkF; split
     · split
       · have := ih r (text ++ [60]) out hs h; rw [if_neg (by simp)] at this; exact ⟨this.1, by omega⟩
       · refine ⟨okT_flsh h _, ?_⟩; have := flsh_len (text ++ 60 :: r) out; rw [if_neg (by simp)] at this; omega
       · rename_i u e; have hl := tagP_len _ _ _ e; have := ih u text out (by omega) h; exact ⟨this.1, by omega⟩
       · rename_i t u e; have hl := tagP_len _ _ _ e; split
         · rename_i hn; have ht := tagP_ok _ _ _ e hn; have h1 := ih u [] _ (by omega) (okT_tag h text t ht.1 ht.2); have h2 := flsh_len text out; rw [if_pos rfl] at h1; simp only [List.length_append, List.length_singleton] at h1; exact ⟨h1.1, by omega⟩
         · have := ih u text out (by omega) h; exact ⟨this.1, by omega⟩
     · have := ih r (text ++ [c]) out hs h; rw [if_neg (by simp)] at this; exact ⟨this.1, by omega⟩
theorem TokL_right (s : List UInt8) : tkEF 0 (TokL s) = 0 ∧ (TokL s).length ≤ s.length := by
 have := tkF_right s.length s [] [] (Nat.le_refl _) ⟨rfl, Or.inl rfl⟩; simpa [TokL, tkP] using this
theorem TokL_ck (s : List UInt8) (h : s.length ≤ 3000) : ckE (TokL s) = 0 := by
 have := TokL_right s; unfold ckE; rw [if_neg (by omega)]; exact this.1
def apL : List Nm := [sP, sLi, sBq, sUl, sOl]
def apN (n : Nm) : Bool := apL.contains n
mutual
def tlN : Nd → List UInt8
 | .mk n _ x k => x ++ (if emptyN n || apN n then [32] else []) ++ tlL k ++ (if apN n then [32] else [])
def tlL : List Nd → List UInt8
 | [] => []
 | d :: l => tlN d ++ tlL l
end
mutual
def spN : Nd → List UInt8
 | .mk n _ x k => if n = [] then x else if emptyN n = true then [32] else if apN n = true then [32] ++ spL k ++ [32] else spL k
def spL : List Nd → List UInt8
 | [] => []
 | d :: l => spN d ++ spL l
end
theorem ap_nil : apN [] = false := by decide
theorem em_nil : emptyN [] = false := by decide
theorem em_ap {n : Nm} (h : emptyN n = true) : apN n = false := by
 unfold emptyN at h; simp only [Bool.or_eq_true, decide_eq_true_eq] at h; rcases h with (rfl | rfl) | rfl <;> decide
theorem tl_sp (l : List Nd) : ∀ r prev, ckL r prev l = 0 → tlL l = spL l := by
 induction l using Nd.ind with
 | h0 => intro r prev _; rw [tlL, spL]
 | h1 n a x k l ik il =>
   intro r prev h; rw [ckL] at h; by_cases h1 : ckN r prev (.mk n a x k) = 0
   · rw [if_neg (by rw [h1]; simp)] at h; rw [tlL, spL, il _ _ h]; congr 1; rw [ckN] at h1; by_cases h2 : ndE r (.mk n a x k) = 0
     · rw [if_neg (by rw [h2]; simp)] at h1; rw [tlN, spN]; by_cases hn : n = []
       · subst hn; have hk : k = [] := by
          unfold ndE at h2; simp at h2; rcases k with _ | ⟨d, k⟩
          · rfl
          · simp at h2
         subst hk; simp [tlL, ap_nil, em_nil]
       · split at h1
         · exact absurd h1 (by decide)
         · have hx : x = [] ∧ (emptyN n = true → k = []) := by
            unfold ndE at h2; dsimp only at h2; rw [if_neg hn] at h2; by_cases hq : x ≠ [] ∨ isNm n = false ∨ (emptyN n = true ∧ k ≠ [])
            · rw [if_pos hq] at h2; exact absurd h2 (by decide)
            · refine ⟨Classical.byContradiction (fun e => hq (.inl e)), fun he => Classical.byContradiction (fun e => hq (.inr (.inr ⟨he, e⟩)))⟩
           obtain ⟨rfl, hk⟩ := hx; rw [ik _ _ h1, if_neg hn]; cases he : emptyN n with
           | true =>
             have hk := hk he; subst hk; simp [em_ap he, spL]
           | false =>
             cases ha : apN n with
             | true => simp
             | false => simp
     · rw [if_pos h2] at h1; exact absurd h1 h2
   · rw [if_pos h1] at h; exact absurd h h1
def wdU (s : List UInt8) : List UInt8 := jnW ((Lib.goFieldsP wrn ⟨(tlL (ofM (TokL s))).toArray⟩).map (·.data.toList))
theorem wd_ref (s : List UInt8) (hs : s.length ≤ 3000) : wdU s = wsG (spL (ofM (TokL s))) ([], false) := by
 unfold wdU; rw [ws_eq, tl_sp _ [] false (ckT_zero (ckT_ofM (TokL s) (TokL_ck s hs))).2.2]
end Go.Proofs.YtamdlihgecpbkaaGreatDoor

/- byteStringReplacer.Replace: signs are put. · strings.NewReplacer, (*Replacer).Replace, escape.put. · The reference's small functions that the seats beside the date's share. -/
import Derived.Test.YtamdlihgecpbkaaGreatDoorEscC
import Derived.Test.YtamdlihgecpbkaaGreatDoorShelf
import Derived.Laws.CopyOwn
import Derived.Laws.MakeOwn
import Derived.Laws.BytesArg
import Derived.Deep.DeepCutAuto
import Derived.Deep.RegionLaw
import Derived.IntWalk
import Derived.OwnWalk
import Derived.Test.YtamdlihgecpbkaaGreatDoorGrpA
set_option maxRecDepth 100000
set_option maxHeartbeats 4000000
namespace Go.Proofs.YtamdlihgecpbkaaGreatDoor
open Go.RowKit
def spc (c : UInt8) : Bool := c == 38 || c == 60 || c == 62 || c == 34
theorem putc_plain {c : UInt8} (h : spc c = false) : putc c = [c] := by
 simp only [spc, Bool.or_eq_false_iff, beq_eq_false_iff_ne] at h; obtain ⟨⟨⟨h1, h2⟩, h3⟩, h4⟩ := h; have n (x : UInt8) (hx : c ≠ x) : ¬ (c.toNat : Int) = x.toNat := fun e => hx (UInt8.toNat_inj.1 (by omega))
 unfold putc; have n38 : ¬ (c.toNat : Int) = 38 := n 38 h1; have n60 : ¬ (c.toNat : Int) = 60 := n 60 h2; have n62 : ¬ (c.toNat : Int) = 62 := n 62 h3; have n34 : ¬ (c.toNat : Int) = 34 := n 34 h4; rw [if_neg n38, if_neg n60, if_neg n62, if_neg n34]
theorem putc_len1 (c : UInt8) : 1 ≤ (putc c).length := by unfold putc; (repeat' split) <;> simp
theorem PutL_any (l : List UInt8) (h : l.any spc = false) : PutL l = l := by
 induction l with
 | nil => rfl
 | cons c l ih =>
   simp only [List.any_cons, Bool.or_eq_false_iff] at h; rw [show PutL (c :: l) = putc c ++ PutL l from rfl, putc_plain h.1, ih h.2]; rfl
theorem PutL_any_snoc (l : List UInt8) (c : UInt8) : (l ++ [c]).any spc = (l.any spc || spc c) := by simp
structure Tb (w : World) (p : Nat) (c : UInt8) : Prop where
 no : spc c = false → w.cell? ⟨p, c.toNat, none⟩ = some (.slice none 0 0)
 yes : spc c = true → 4 ≤ (putc c).length ∧ ∃ g cap, g < w.heap.size ∧ w.cell? ⟨p, c.toNat, none⟩ = some (.slice (some ⟨g, 0, none⟩) (putc c).length cap) ∧ BA w g (putc c)
theorem Bsr.tb {w : World} {p : Nat} (h : Bsr w p) (c : UInt8) : Tb w p c := by
 constructor
 · intro hc; simp only [spc, Bool.or_eq_false_iff, beq_eq_false_iff_ne] at hc; obtain ⟨⟨⟨h1, h2⟩, h3⟩, h4⟩ := hc; have n (x : UInt8) (hx : c ≠ x) : c.toNat ≠ x.toNat := fun e => hx (UInt8.toNat_inj.1 e)
   exact h.nil c.toNat c.toNat_lt (n 34 h4) (n 38 h1) (n 60 h2) (n 62 h3)
 · intro hc; simp only [spc, Bool.or_eq_true, beq_iff_eq] at hc; rcases hc with ((rfl | rfl) | rfl) | rfl
   · obtain ⟨g, cap, hl, hc, hb⟩ := h.s38; exact ⟨by decide, g, cap, hl, hc, hb⟩
   · obtain ⟨g, cap, hl, hc, hb⟩ := h.s60; exact ⟨by decide, g, cap, hl, hc, hb⟩
   · obtain ⟨g, cap, hl, hc, hb⟩ := h.s62; exact ⟨by decide, g, cap, hl, hc, hb⟩
   · obtain ⟨g, cap, hl, hc, hb⟩ := h.s34; exact ⟨by decide, g, cap, hl, hc, hb⟩
theorem Tb.of_bl {w w' : World} {p : Nat} {c : UInt8} (h : Tb w p c) (hp : p < w.heap.size) (hb : Bl w w') : Tb w' p c := by
 constructor
 · intro hc; rw [hb.cells.1 p _ hp]; exact h.no hc
 · intro hc; obtain ⟨h4, g, cap, hl, hcell, hB⟩ := h.yes hc; exact ⟨h4, g, cap, Nat.lt_of_lt_of_le hl (Below.size hb), by rw [hb.cells.1 p _ hp]; exact hcell, hB.of_bl hb hl⟩
def vb (l : List UInt8) : List Value := l.map fun c => Value.int .u8 (c.toNat : Int)
def Buf (w : World) (g n : Nat) (l : List UInt8) : Prop := l.length ≤ n ∧ w.heap[g]? = some (.cells (vb l ++ List.replicate (n - l.length) (Value.int .u8 0)).toArray 5 (0, 0))
theorem vb_len (l : List UInt8) : (vb l).length = l.length := by simp [vb]
theorem Buf.push {w : World} {g n : Nat} {l : List UInt8} (h : Buf w g n l) (hl : l.length < n) (c : UInt8) : Buf (w.setCell ⟨g, l.length, none⟩ (Value.int .u8 c.toNat)) g n (l ++ [c]) := by
 obtain ⟨h0, h1⟩ := h; refine ⟨by simp; omega, ?_⟩; simp only [World.setCell, Array.getElem?_modify, if_true, h1, Option.map_some]; congr 1; simp only [Obj.cells.injEq, and_true]; rw [show n - l.length = (n - (l ++ [c]).length) + 1 by simp; omega, List.replicate_succ]; simp [vb]
theorem Buf.lay {w w' : World} {g n : Nat} {l r : List UInt8} (_h : Buf w g n l) (hl : l.length + r.length ≤ n)
 (h1 : w'.heap[g]? = some (.cells (Go.splice (vb l ++ List.replicate (n - l.length) (Value.int .u8 0)) l.length (vb r)).toArray 5 (0, 0))) : Buf w' g n (l ++ r) := by
 refine ⟨by simp; omega, ?_⟩; have e : Go.splice (vb l ++ List.replicate (n - l.length) (Value.int .u8 0)) l.length (vb r) = vb (l ++ r) ++ List.replicate (n - (l ++ r).length) (Value.int .u8 0) := by
  unfold Go.splice; rw [List.take_left' (vb_len l), ← List.drop_drop, List.drop_left' (vb_len l), List.drop_replicate, vb_len]; simp only [vb, List.map_append, List.append_assoc, List.length_append, Nat.sub_sub]
 rw [h1, e]
theorem Buf.bytes {w : World} {g : Nat} {l : List UInt8} (h : Buf w g l.length l) (i : Nat) (hi : i < l.length) : w.cell? ⟨g, i, none⟩ = some (.int .u8 (l[i].toNat : Int)) := by
 obtain ⟨_, h1⟩ := h; simp [World.cell?, h1, vb, hi]
theorem PutL_len_snoc (l : List UInt8) (c : UInt8) : ((PutL (l ++ [c])).length : Int) = (PutL l).length + (putc c).length := by rw [PutL_snoc]; simp
theorem cnt_le (l : List UInt8) (c : UInt8) : Lib.countByte l c ≤ l.length := List.count_le_length
theorem cnt_sum (l : List UInt8) : ((PutL l).length : Int) = l.length + 5 * (Lib.countByte l 34 : Nat) + 3 * (Lib.countByte l 62 : Nat) + 3 * (Lib.countByte l 60 : Nat) + 4 * (Lib.countByte l 38 : Nat) := by
 unfold Lib.countByte; induction l with
 | nil => rfl
 | cons c l ih =>
   rw [show PutL (c :: l) = putc c ++ PutL l from rfl, List.length_append, List.length_cons]; simp only [List.count_cons]; by_cases h1 : c = 34
   · subst h1; simp [show (putc 34).length = 6 from rfl]; omega
   by_cases h2 : c = 62
   · subst h2; simp [show (putc 62).length = 4 from rfl]; omega
   by_cases h3 : c = 60
   · subst h3; simp [show (putc 60).length = 4 from rfl]; omega
   by_cases h4 : c = 38
   · subst h4; simp [show (putc 38).length = 5 from rfl]; omega
   have hp : putc c = [c] := putc_plain (by simp [spc, h1, h2, h3, h4]); rw [hp]; simp [h1, h2, h3, h4]; omega
theorem cnt_any (l : List UInt8) : l.any spc = (decide (0 < Lib.countByte l 34) || decide (0 < Lib.countByte l 62) || decide (0 < Lib.countByte l 60) || decide (0 < Lib.countByte l 38)) := by
 unfold Lib.countByte; rw [Bool.eq_iff_iff]; simp only [List.any_eq_true, Bool.or_eq_true, decide_eq_true_eq, List.count_pos_iff, spc, beq_iff_eq]; constructor
 · rintro ⟨x, hx, ((rfl | rfl) | rfl) | rfl⟩ <;> simp [hx]
 · rintro (((h | h) | h) | h) <;> exact ⟨_, h, by simp⟩
def Ks (l : List UInt8) : Nat → Int
 | 0 => l.length
 | 1 => l.length + 5 * (Lib.countByte l 34 : Nat)
 | 2 => l.length + 5 * (Lib.countByte l 34 : Nat) + 3 * (Lib.countByte l 62 : Nat)
 | 3 => l.length + 5 * (Lib.countByte l 34 : Nat) + 3 * (Lib.countByte l 62 : Nat) + 3 * (Lib.countByte l 60 : Nat)
 | _ => l.length + 5 * (Lib.countByte l 34 : Nat) + 3 * (Lib.countByte l 62 : Nat) + 3 * (Lib.countByte l 60 : Nat) + 4 * (Lib.countByte l 38 : Nat)
def Ka (l : List UInt8) : Nat → Bool
 | 0 => false
 | 1 => false || decide (0 < Lib.countByte l 34)
 | 2 => false || decide (0 < Lib.countByte l 34) || decide (0 < Lib.countByte l 62)
 | 3 => false || decide (0 < Lib.countByte l 34) || decide (0 < Lib.countByte l 62) || decide (0 < Lib.countByte l 60)
 | _ => false || decide (0 < Lib.countByte l 34) || decide (0 < Lib.countByte l 62) || decide (0 < Lib.countByte l 60) || decide (0 < Lib.countByte l 38)
theorem or_yes {X : Bool} {n : Nat} (h : ((n : Int) != 0) = true) : true = (X || decide (0 < n)) := by
 simp only [bne_iff_ne, ne_eq] at h; rw [decide_eq_true (by omega), Bool.or_true]
theorem or_no {X : Bool} {n : Nat} (h : ((n : Int) != 0) = false) : X = (X || decide (0 < n)) := by
 simp only [bne_eq_false_iff_eq] at h; rw [decide_eq_false (by omega), Bool.or_false]
theorem info8 : (Tryz.prog.info? 5).map (fun i => (i.zero, i.size, i.bytes)) = some (some (.int .u8 0), 1, 1) := by kernel_rfl
def zrow (N : Nat) : Obj := .cells (List.replicate N (Value.int .u8 0)).toArray 5
theorem mk_bytes (W : World) (N : Nat) (hN : N ≤ 281474976710656) : (Instr.makeSlice 60 (.int .i64 (N : Int)) (.int .i64 (N : Int))).run Tryz.prog W = .ok (.slice (some ⟨W.heap.size, 0, none⟩) N N) (W.alloc (zrow N)) := by
 obtain ⟨i0, hi, hz0, hz1, hz2⟩ := info_parts info8; have h := run_make (P := Tryz.prog) W 60 5 i0 (.int .u8 0) Tryz.underlying60 hi hz0 .i64 .i64 (N : Int) (N : Int) (by omega) (by omega) (by rw [hz2]; omega) (by omega); rw [hz1] at h; have e : madeCells (Value.int .u8 0).cells ((N : Int).toNat * 1) = (List.replicate N (Value.int .u8 0)).toArray := by
  rw [← Array.toList_inj]; simpa [Value.cells] using toList_madeCells_one (Value.int .u8 0) N
 rw [e] at h; simpa [zrow] using h
theorem Buf.zero (W : World) (N g : Nat) (hg : W.heap.size = g) : Buf (W.alloc (zrow N)) g N [] := by
 subst hg; refine ⟨by simp, ?_⟩; rw [heap_alloc_last]; simp [zrow, vb]
theorem Buf.cell {w : World} {g n : Nat} {l : List UInt8} (h : Buf w g n l) (hl : l.length < n) : w.cell? ⟨g, l.length, none⟩ = some (.int .u8 0) ∧ w.frozen? ⟨g, l.length, none⟩ = false := by
 obtain ⟨_, h1⟩ := h; constructor
 · have : (vb l ++ List.replicate (n - l.length) (Value.int .u8 0))[l.length]? = some (Value.int .u8 0) := by
    rw [List.getElem?_append_right (by rw [vb_len]; exact Nat.le_refl _), vb_len, Nat.sub_self, List.getElem?_replicate, if_pos (by omega)]
   simp [World.cell?, h1, this]
 · simp [World.frozen?, h1]
theorem PutL_take_le (l : List UInt8) (k : Nat) : (PutL (l.take k)).length ≤ (PutL l).length := by
 have : PutL l = PutL (l.take k) ++ PutL (l.drop k) := by rw [PutL, PutL, PutL, ← List.flatMap_append, List.take_append_drop]
 rw [this, List.length_append]; omega
theorem conv_buf (W : World) (g : Nat) (l : List UInt8) (h : Buf W g l.length l) : (convert 60 9 (.slice (some ⟨g, 0, none⟩) l.length l.length)).run Tryz.prog W = .ok (.string ⟨l.toArray⟩) W := by
 have h1 := run_convert_bytes_arg (P := Tryz.prog) W 60 5 Tryz.underlying60 Tryz.underlying5 g 0 l.length l.length (l.map fun c => (c.toNat : Int)) (by simp) (fun i hi => by
  rw [Nat.zero_add, h.bytes i hi]; simp [List.getD, hi]) 9 Tryz.underlying9
 have e : (l.map fun c => (c.toNat : Int)).map (fun n => UInt8.ofNat n.toNat) = l := by
  rw [List.map_map]; exact (List.map_congr_left (fun c _ => by simp)).trans (List.map_id l)
 rw [h1, strOfNums, e]
theorem bsr_c (p : Nat) (l : List UInt8) (hl : l.length ≤ 1099511627776) (w : World) (hB : Bsr w p) (hp : p < w.heap.size) :
 Calls Tryz.prog 273 #[.pointer (some ⟨p, 0, none⟩), .string ⟨l.toArray⟩] w fun e w' => e = .returned (.string ⟨(PutL l).toArray⟩) ∧ Bl w w' := by
 have hPl := PutL_len l; obtain ⟨r, hr, hr0, ra, rb, rc, rd⟩ := hB.rep; have HB := Lib.hid hB; have heq : ∀ W a n m, (binOp .neq 60 (.slice a n m) (.slice none 0 0)).run Tryz.prog W = .ok (.bool (!a.isNone)) W := fun W a n m => run_neq_slice_nil W _ 5 a n m (by kernel_rfl)
 obtain ⟨g34, m34, -, e34, -⟩ := hB.s34; obtain ⟨g38, m38, -, e38, -⟩ := hB.s38; obtain ⟨g60, m60, -, e60, -⟩ := hB.s60; obtain ⟨g62, m62, -, e62, -⟩ := hB.s62; have n34 := cnt_le l 34; have n38 := cnt_le l 38; have n60 := cnt_le l 60; have n62 := cnt_le l 62; have HS := Lib.hid (cnt_sum l); have HA := Lib.hid (cnt_any l); clear hB; go_enter Tryz.func273, Tryz.ntmps273
 go_upto_if 26 with fail
 go_cut [5, 6] (fun s5 s6 wx => s5 = .int .i64 (PutL l).length ∧ s6 = .bool (l.any spc) ∧ Qt w wx); case first =>
  by_cases h32 : 32 ≤ l.length
  · have h32' : decide ((32 : Int) ≤ (l.length : Int)) = true := by simp; omega
    rw [h32']; go_wp2_with fail; go_loopw [5, 6, 32] (fun s5 s6 s32 wr => ∃ j : Nat, j ≤ 4 ∧ s32 = .int .i64 j ∧ s5 = .int .i64 (Ks l j) ∧ s6 = .bool (Ka l j) ∧ Qt w wr) (fun _ _ s32 _ => 4 - (intOf s32).toNat); case atStart => exact ⟨0, by omega, rfl, rfl, rfl, Qt.refl _⟩
    case round =>
     obtain ⟨j, hj, rfl, rfl, rfl, n, rfl⟩ := hrel; have hj' : j = 0 ∨ j = 1 ∨ j = 2 ∨ j = 3 ∨ j = 4 := by omega
     clear hj; rcases hj' with rfl | rfl | rfl | rfl | rfl; all_goals simp only [Ks, Ka]
     · go_wp2_with (first | (go_at_call 275; refine (Tryz.strings_Count_one _ 34 _).mono ?_; rintro e w' ⟨rfl, rfl⟩) | go_quiet (fail)); all_goals
        go_roundw; case rel =>
         refine ⟨1, by omega, rfl, ?_, ?_, by simp only [Qt]; exact ⟨_, rfl⟩⟩
         · first
           | (have hb : ((Lib.countByte l 34 : Int) != 0) = true := by assumption
              exact congrArg (Value.int .i64) (by simp only []; omega))
           | (have hb : ((Lib.countByte l 34 : Int) != 0) = false := by assumption
              simp only [bne_eq_false_iff_eq] at hb; exact congrArg (Value.int .i64) (by simp only []; omega))
         · first | exact congrArg Value.bool (or_yes (by assumption)) | exact congrArg Value.bool (or_no (by assumption))
        case measure => simp [intOf]
     · go_wp2_with (first | (go_at_call 275; refine (Tryz.strings_Count_one _ 62 _).mono ?_; rintro e w' ⟨rfl, rfl⟩) | go_quiet (fail)); all_goals
        go_roundw; case rel =>
         refine ⟨2, by omega, rfl, ?_, ?_, by simp only [Qt]; exact ⟨_, rfl⟩⟩
         · first
           | (have hb : ((Lib.countByte l 62 : Int) != 0) = true := by assumption
              exact congrArg (Value.int .i64) (by simp only []; omega))
           | (have hb : ((Lib.countByte l 62 : Int) != 0) = false := by assumption
              simp only [bne_eq_false_iff_eq] at hb; exact congrArg (Value.int .i64) (by simp only []; omega))
         · first | exact congrArg Value.bool (or_yes (by assumption)) | exact congrArg Value.bool (or_no (by assumption))
        case measure => simp [intOf]
     · go_wp2_with (first | (go_at_call 275; refine (Tryz.strings_Count_one _ 60 _).mono ?_; rintro e w' ⟨rfl, rfl⟩) | go_quiet (fail)); all_goals
        go_roundw; case rel =>
         refine ⟨3, by omega, rfl, ?_, ?_, by simp only [Qt]; exact ⟨_, rfl⟩⟩
         · first
           | (have hb : ((Lib.countByte l 60 : Int) != 0) = true := by assumption
              exact congrArg (Value.int .i64) (by simp only []; omega))
           | (have hb : ((Lib.countByte l 60 : Int) != 0) = false := by assumption
              simp only [bne_eq_false_iff_eq] at hb; exact congrArg (Value.int .i64) (by simp only []; omega))
         · first | exact congrArg Value.bool (or_yes (by assumption)) | exact congrArg Value.bool (or_no (by assumption))
        case measure => simp [intOf]
     · go_wp2_with (first | (go_at_call 275; refine (Tryz.strings_Count_one _ 38 _).mono ?_; rintro e w' ⟨rfl, rfl⟩) | go_quiet (fail)); all_goals
        go_roundw; case rel =>
         refine ⟨4, by omega, rfl, ?_, ?_, by simp only [Qt]; exact ⟨_, rfl⟩⟩
         · first
           | (have hb : ((Lib.countByte l 38 : Int) != 0) = true := by assumption
              exact congrArg (Value.int .i64) (by simp only []; omega))
           | (have hb : ((Lib.countByte l 38 : Int) != 0) = false := by assumption
              simp only [bne_eq_false_iff_eq] at hb; exact congrArg (Value.int .i64) (by simp only []; omega))
         · first | exact congrArg Value.bool (or_yes (by assumption)) | exact congrArg Value.bool (or_no (by assumption))
        case measure => simp [intOf]
     · go_wp2; go_meet; case rel => exact ⟨congrArg (Value.int .i64) (by rw [HS.out]), congrArg Value.bool (by rw [HA.out, Bool.false_or]), _, rfl⟩
  · have h32' : decide ((32 : Int) ≤ (l.length : Int)) = false := by simp; omega
    rw [h32']; go_wp2_with fail; go_loop [5, 6, 10] (fun s5 s6 s10 => ∃ k : Nat, k ≤ l.length ∧ s10 = .int .i64 k ∧ s5 = .int .i64 ((l.length : Int) - k + (PutL (l.take k)).length) ∧ s6 = .bool ((l.take k).any spc)) (fun _ _ s10 => l.length - (intOf s10).toNat); case atStart => exact ⟨0, by omega, rfl, congrArg (Value.int .i64) (by simp [PutL]), by simp⟩
    case round =>
     obtain ⟨k, hk, rfl, rfl, rfl⟩ := hrel; by_cases hlt : k < l.length
     · have hb := u8_lt l[k]; have hP := PutL_len (l.take k); have ht : (l.take k).length ≤ k := List.length_take_le _ _; have HL := Lib.hid (PutL_len_snoc (l.take k) l[k]); have HN := Lib.hid (PutL_any_snoc (l.take k) l[k]); have HT := Lib.hid (take_snoc l k hlt); have tb := HB.out.tb l[k]; have p1 := putc_len1 l[k]; have p6 := putc_len l[k]; cases hs : spc l[k]
       · have hc := tb.no hs; have HP := Lib.hid (congrArg List.length (putc_plain hs)); have H1 := Lib.hid hs; clear hs tb; go_wp2; go_round; case rel => exact ⟨k + 1, by omega, by go_num, congrArg (Value.int .i64) (by rw [HT.out, HL.out, HP.out]; simp; omega), congrArg Value.bool (by rw [HT.out, HN.out, H1.out, Bool.or_false])⟩
         case measure => simp [intOf]; omega
       · obtain ⟨h4, g, cap, -, hc, -⟩ := tb.yes hs; have H1 := Lib.hid hs; clear hs tb; go_wp2; go_round; case rel => exact ⟨k + 1, by omega, by go_num, congrArg (Value.int .i64) (by rw [HT.out, HL.out]; omega), congrArg Value.bool (by rw [HT.out, HN.out, H1.out, Bool.or_true])⟩
         case measure => simp [intOf]; omega
     · have HE := Lib.hid (show l.take k = l from List.take_of_length_le (by omega)); go_wp2; go_meet; case rel => exact ⟨congrArg (Value.int .i64) (by rw [HE.out]; omega), congrArg Value.bool (by rw [HE.out]), Qt.refl _⟩
 case rest =>
  obtain ⟨rfl, rfl, n0, rfl⟩ := hcut; cases ha : l.any spc
  · have HP := Lib.hid (PutL_any l ha); go_wp2; go_ret; exact ⟨by rw [HP.out]; rfl, (Bl.refl _).drewN _⟩
  · clear ha; have hmk := fun W => mk_bytes W (PutL l).length (by omega)
    obtain ⟨N, hN⟩ : ∃ N, N = (PutL l).length := ⟨_, rfl⟩; rw [← hN] at hmk; have HN := Lib.hid hN; have hN2 : N ≤ 6 * l.length := by omega
    rw [← hN]; clear hN hPl; go_wp2; go_loopw [13, 14] (fun s13 s14 wr => ∃ k : Nat, k ≤ l.length ∧ s14 = .int .i64 k ∧ s13 = .int .i64 (PutL (l.take k)).length ∧ Buf wr w.heap.size N (PutL (l.take k)) ∧ Bl w wr) (fun _ s14 _ => l.length - (intOf s14).toNat); case atStart => exact ⟨0, by omega, rfl, rfl, Buf.zero _ _ _ (by simp), ((Bl.refl _).drewN _).alloc _⟩
    case round =>
     obtain ⟨k, hk, rfl, rfl, hbuf, hbl⟩ := hrel; by_cases hlt : k < l.length
     · have hb := u8_lt l[k]; have hle := PutL_take_le l (k + 1); rw [← HN.out, take_snoc l k hlt, PutL_snoc, List.length_append] at hle; have HT := Lib.hid (show PutL (l.take (k + 1)) = PutL (l.take k) ++ putc l[k] by rw [take_snoc l k hlt, PutL_snoc]); obtain ⟨P, hP⟩ : ∃ P, P = PutL (l.take k) := ⟨_, rfl⟩; rw [← hP] at hbuf hle HT ⊢; clear hP; have tb := (HB.out.tb l[k]).of_bl hp hbl; have p1 := putc_len1 l[k]; have p6 := putc_len l[k]; have hPN : P.length < N := by omega
       have hPN' : (P.length : Int) < (N : Int) := by omega
       obtain ⟨bc, bf⟩ := hbuf.cell hPN; cases hs : spc l[k]
       · have hc := tb.no hs; have HP := Lib.hid (putc_plain hs); clear hs tb; have HBuf := Lib.hid (hbuf.push hPN l[k]); have HBl := Lib.hid (Below.setCell (p := ⟨w.heap.size, P.length, none⟩) hbl (Nat.le_refl _) (.int .u8 l[k].toNat)); clear hbuf hbl; go_wp2; go_roundw; case rel => exact ⟨k + 1, by omega, by go_num, congrArg (Value.int .i64) (by rw [HT.out, HP.out]; simp), by rw [HT.out, HP.out]; exact HBuf.out, HBl.out⟩
         case measure => simp [intOf]; omega
       · obtain ⟨h4, g, cap, hg, hc, hBA⟩ := tb.yes hs; clear hs tb; obtain ⟨i0, hi0, -, hz1, -⟩ := info_parts info8; have hsz : (Tryz.prog.info? 5).map (·.size) = some 1 := by rw [hi0]; simp [hz1]
         have HBuf := Lib.hid hbuf; have HBA := Lib.hid hBA; have hcn : (vb (putc l[k])).length = Nat.min (putc l[k]).length (N - P.length) := by rw [vb_len]; exact (Nat.min_eq_left (by omega : (putc l[k]).length ≤ N - P.length)).symm
         have hfit : P.length + (vb (putc l[k])).length ≤ (vb P ++ List.replicate (N - P.length) (Value.int .u8 0)).length := by simp [vb]; omega
         have h1c : ∀ v ∈ vb (putc l[k]), v.oneCell' = true := by
          intro v hv; obtain ⟨x, _, rfl⟩ := List.mem_map.1 hv; rfl
         have hsrc : ∀ j v, (vb (putc l[k]))[j]? = some v → wr.cell? ((⟨g, 0, none⟩ : Addr).add j) = some v := by
          intro j v hv; have hj : j < (putc l[k]).length := by
           rcases Nat.lt_or_ge j (putc l[k]).length with h | h
           · exact h
           · rw [List.getElem?_eq_none (by rw [vb_len]; exact h)] at hv; cases hv
          have ha : (⟨g, 0, none⟩ : Addr).add j = ⟨g, j, none⟩ := by unfold Addr.add; split <;> simp_all
          rw [ha, HBA.out j hj]; rw [vb, List.getElem?_map, List.getElem?_eq_getElem hj] at hv; exact hv
         have HLAY := Lib.hid (fun W' => @Buf.lay wr W' w.heap.size N P (putc l[k]) hbuf hle); obtain ⟨hb0, hb1⟩ := hbuf; have HB1 := Lib.hid hb1; have HC1 := Lib.hid hcn; have HF := Lib.hid hfit; have H1 := Lib.hid h1c; have HP := Lib.hid hsrc; have HBL := Lib.hid hbl; clear hb1 hcn hfit h1c hsrc hBA; have hbi : ((l[k].toNat : Nat) : Int) < 256 := by omega
         have hPi : (P.length : Int) ≤ (N : Int) := by omega
         have hne : ¬ N = P.length := by omega
         go_wp2_with fail
         go_region_law ((refine step_copy_splice (by rfl) (.tmp 105) (.tmp 111) 60 60 (by rfl) 5 Tryz.underlying60 hsz _ _ _ _ _ _ (by rfl) (by rfl) w.heap.size P.length (vb P ++ List.replicate (N - P.length) (Value.int .u8 0)) 5 HB1.out (vb (putc l[k])) HC1.out (fun _ => ⟨rfl, _, rfl, HP.out⟩) HF.out H1.out w.heap.size w (Below.drew HBL.out) (Nat.le_refl _) ?_; intro w4 hg4 hb4))
         all_goals
          have HBuf' := Lib.hid (HLAY.out w4 hg4.out); clear HLAY hg4; have HB4 := Lib.hid hb4; clear hb4; go_wp2; go_roundw; case rel => exact ⟨k + 1, by omega, by go_num, congrArg (Value.int .i64) (by rw [HT.out, vb_len, List.length_append]; unfold wrap64; omega), by rw [HT.out]; exact HBuf'.out, HB4.out⟩
          case measure => simp [intOf]; omega
     · have hcv := conv_buf wr w.heap.size (PutL l); rw [List.take_of_length_le (by omega : l.length ≤ k), HN.out] at hbuf; have hcv' := hcv hbuf; rw [← HN.out] at hcv'; clear hcv hbuf; go_wp2; go_ret; exact ⟨rfl, hbl⟩
theorem infoStr : (Tryz.prog.info? 9).map (fun i => (i.zero, i.size, i.bytes)) = some (some (.string ⟨#[]⟩), 1, 16) := by kernel_rfl
def E8 (w : World) (g : Nat) : Prop := ∀ j, (h : j < eight.size) → w.cell? ⟨g, j, none⟩ = some eight[j]
theorem E8.of_bl {w w' : World} {g : Nat} (h : E8 w g) (hb : Bl w w') (hg : g < w.heap.size) : E8 w' g := fun j hj => (hb.cells.1 g j hg).trans (h j hj)
def RB (w : World) (b : Nat) (d x : Int) (r o : Value) : Prop := w.heap[b]? = some (.cells #[.int .u32 d, .int .i32 x, .int .u32 0, r, o] 164 (0, 0))
theorem RB.lt {w : World} {b : Nat} {d x : Int} {r o : Value} (h : RB w b d x r o) : b < w.heap.size := (Array.getElem?_eq_some_iff.1 h).1
theorem RB.cells {w : World} {b : Nat} {d x : Int} {r o : Value} (h : RB w b d x r o) :
 w.cell? ⟨b, 0, none⟩ = some (.int .u32 d) ∧ w.cell? ⟨b, 1, none⟩ = some (.int .i32 x) ∧ w.cell? ⟨b, 3, none⟩ = some r ∧ w.cell? ⟨b, 4, none⟩ = some o ∧ ∀ k, w.frozen? ⟨b, k, none⟩ = false := by
 unfold RB at h; refine ⟨by simp [World.cell?, h], by simp [World.cell?, h], by simp [World.cell?, h], by simp [World.cell?, h], fun k => by simp [World.frozen?, h]⟩
theorem RB.set0 {w : World} {b : Nat} {d x : Int} {r o : Value} (h : RB w b d x r o) (y : Int) : RB (w.setCell ⟨b, 0, none⟩ (.int .u32 y)) b y x r o := by
 unfold RB at *; simp [World.setCell, Array.getElem?_modify, h]
theorem RB.set1 {w : World} {b : Nat} {d x : Int} {r o : Value} (h : RB w b d x r o) (y : Int) : RB (w.setCell ⟨b, 1, none⟩ (.int .i32 y)) b d y r o := by
 unfold RB at *; simp [World.setCell, Array.getElem?_modify, h]
theorem RB.set3 {w : World} {b : Nat} {d x : Int} {r o : Value} (h : RB w b d x r o) (y : Value) : RB (w.setCell ⟨b, 3, none⟩ y) b d x y o := by
 unfold RB at *; simp [World.setCell, Array.getElem?_modify, h]
theorem RB.set4 {w : World} {b : Nat} {d x : Int} {r o : Value} (h : RB w b d x r o) (y : Value) : RB (w.setCell ⟨b, 4, none⟩ y) b d x r y := by
 unfold RB at *; simp [World.setCell, Array.getElem?_modify, h]
theorem RB.of_bl {w w' : World} {b : Nat} {d x : Int} {r o : Value} (h : RB w b d x r o) (hb : Bl w w') : RB w' b d x r o := by
 have := h.lt; unfold RB at *; rw [Below.block hb b this, h]
theorem cell_far {w : World} {b k g i : Nat} {v : Value} (h : g ≠ b) : (w.setCell ⟨b, k, none⟩ v).cell? ⟨g, i, none⟩ = w.cell? ⟨g, i, none⟩ :=
 World.cell?_setCell_other _ ⟨b, k, none⟩ ⟨g, i, none⟩ _ (by simp [])
theorem BA.far {w : World} {b k g : Nat} {v : Value} {l : List UInt8} (h : BA w g l) (hg : g ≠ b) : BA (w.setCell ⟨b, k, none⟩ v) g l := fun i hi => (cell_far hg).trans (h i hi)
theorem RB.ne_bytes {w : World} {b : Nat} {d x : Int} {r o : Value} (h : RB w b d x r o) {g : Nat} {l : List UInt8} (hl : 0 < l.length) (hB : BA w g l) : g ≠ b := by
 rintro rfl; have h1 := hB 0 hl; rw [h.cells.1] at h1; cases h1
theorem Bsr.set {w : World} {p b k : Nat} {d x : Int} {r o v : Value} (h : Bsr w p) (hb : RB w b d x r o) : Bsr (w.setCell ⟨b, k, none⟩ v) p := by
 have hp : p ≠ b := by
  rintro rfl; have h1 := h.nil 0 (by omega) (by omega) (by omega) (by omega) (by omega); rw [hb.cells.1] at h1; cases h1
 have hs : (w.setCell ⟨b, k, none⟩ v).heap.size = w.heap.size := by simp [World.setCell]
 refine ⟨fun c h0 h1 h2 h3 h4 => (cell_far hp).trans (h.nil c h0 h1 h2 h3 h4), ?_, ?_, ?_, ?_, ?_⟩
 · obtain ⟨g, c, h1, h2, h3⟩ := h.s34; exact ⟨g, c, by omega, (cell_far hp).trans h2, h3.far (hb.ne_bytes (by simp) h3)⟩
 · obtain ⟨g, c, h1, h2, h3⟩ := h.s38; exact ⟨g, c, by omega, (cell_far hp).trans h2, h3.far (hb.ne_bytes (by simp) h3)⟩
 · obtain ⟨g, c, h1, h2, h3⟩ := h.s60; exact ⟨g, c, by omega, (cell_far hp).trans h2, h3.far (hb.ne_bytes (by simp) h3)⟩
 · obtain ⟨g, c, h1, h2, h3⟩ := h.s62; exact ⟨g, c, by omega, (cell_far hp).trans h2, h3.far (hb.ne_bytes (by simp) h3)⟩
 · obtain ⟨q, h1, h2, h3, h4, h5, h6⟩ := h.rep; have hq : q ≠ b := by
    rintro rfl; rw [hb.cells.1] at h3; cases h3
   exact ⟨q, by omega, (cell_far hp).trans h2, (cell_far hq).trans h3, (cell_far hq).trans h4, (cell_far hq).trans h5, (cell_far hq).trans h6⟩
theorem Bsr.of_bl {w w' : World} {p : Nat} (h : Bsr w p) (hp : p < w.heap.size) (hb : Bl w w') : Bsr w' p := by
 have hs := Below.size hb; have hc := hb.cells.1; refine ⟨fun c h0 h1 h2 h3 h4 => (hc p c hp).trans (h.nil c h0 h1 h2 h3 h4), ?_, ?_, ?_, ?_, ?_⟩
 · obtain ⟨g, c, h1, h2, h3⟩ := h.s34; exact ⟨g, c, by omega, (hc p _ hp).trans h2, h3.of_bl hb h1⟩
 · obtain ⟨g, c, h1, h2, h3⟩ := h.s38; exact ⟨g, c, by omega, (hc p _ hp).trans h2, h3.of_bl hb h1⟩
 · obtain ⟨g, c, h1, h2, h3⟩ := h.s60; exact ⟨g, c, by omega, (hc p _ hp).trans h2, h3.of_bl hb h1⟩
 · obtain ⟨g, c, h1, h2, h3⟩ := h.s62; exact ⟨g, c, by omega, (hc p _ hp).trans h2, h3.of_bl hb h1⟩
 · obtain ⟨q, h1, h2, h3, h4, h5, h6⟩ := h.rep; exact ⟨q, by omega, (hc p _ hp).trans h2, (hc q _ h1).trans h3, (hc q _ h1).trans h4, (hc q _ h1).trans h5, (hc q _ h1).trans h6⟩
structure Mo (b : Nat) (w w' : World) : Prop where
 os : w'.os = w.os
 tape : w'.tape = w.tape
 output : w'.output = w.output
 size : w.heap.size ≤ w'.heap.size
 block : ∀ k, k < w.heap.size → k ≠ b → w'.heap[k]? = w.heap[k]?
theorem Mo.refl (b : Nat) (w : World) : Mo b w w := ⟨rfl, rfl, rfl, Nat.le_refl _, fun _ _ _ => rfl⟩
theorem Mo.trans {b : Nat} {x y z : World} (h : Mo b x y) (k : Mo b y z) : Mo b x z :=
 ⟨k.os.trans h.os, k.tape.trans h.tape, k.output.trans h.output, Nat.le_trans h.size k.size, fun i hi hb => (k.block i (Nat.lt_of_lt_of_le hi h.size) hb).trans (h.block i hi hb)⟩
theorem Mo.of_bl {b : Nat} {w w' : World} (h : Bl w w') : Mo b w w' := ⟨Below.os h, Below.tape h, Below.output h, Below.size h, fun k hk _ => Below.block h k hk⟩
theorem Mo.set {b : Nat} {x w : World} (h : Mo b x w) (o : Nat) (v : Value) : Mo b x (w.setCell ⟨b, o, none⟩ v) :=
 h.trans ⟨rfl, rfl, rfl, by simp [World.setCell], fun k _ hb => Below.heap_setCell _ _ _ _ hb⟩
theorem Mo.bl {b : Nat} {x w w' : World} (h : Mo b w w') (hx : Bl x w) (hb : x.heap.size ≤ b) : Bl x w' :=
 ⟨h.os.trans (Below.os hx), h.tape.trans (Below.tape hx), h.output.trans (Below.output hx), Nat.le_trans (Below.size hx) h.size, fun k hk => (h.block k (Nat.lt_of_lt_of_le hk (Below.size hx)) (by omega)).trans (Below.block hx k hk)⟩
theorem newR_c (o : Nat) (w : World) (_ho : o < w.heap.size) (hE : E8 w o) :
 Calls Tryz.prog 106 #[.slice (some ⟨o, 0, none⟩) 8 8] w fun e w' => ∃ b g cap, e = .returned (.pointer (some ⟨b, 0, none⟩)) ∧ w.heap.size ≤ b ∧ g < w'.heap.size ∧ g ≠ b ∧ w.heap.size ≤ g ∧ RB w' b 0 0 .nilIface (.slice (some ⟨g, 0, none⟩) 8 cap) ∧ E8 w' g ∧ Bl w w' := by
 obtain ⟨i0, hi, hz0, hz1, hz2⟩ := info_parts infoStr; have hown : w.ownsRow w.heap.size 9 1 (.slice none 0 0) 0 [] := ⟨rfl, Or.inl ⟨rfl, rfl⟩⟩; have hnews : ∀ j u, eight.toList[j]? = some u → w.cell? ((⟨o, 0, none⟩ : Addr).add j) = some u := by
  intro j u hj; have hj' : j < eight.size := by
   rcases Nat.lt_or_ge j eight.size with h | h
   · exact h
   · rw [List.getElem?_eq_none (by simpa using h)] at hj; cases hj
  have ha : (⟨o, 0, none⟩ : Addr).add j = ⟨o, j, none⟩ := by unfold Addr.add; split <;> simp_all
  rw [ha, hE j hj']; simpa [hj'] using hj
 have h1c : ∀ u ∈ eight.toList, u.oneCell' = true := by decide
 have HN := Lib.hid hnews; have H1 := Lib.hid h1c; clear hnews h1c; go_enter Tryz.func106, Tryz.ntmps106; go_wp2_with (at_builtin; refine wpList_append_own _ rfl _ _ 25 rfl w.heap.size 9 i0 (.string ⟨#[]⟩) 1 16 Tryz.underlying25 hi hz0 hz1 hz2 rfl (by decide) (.slice none 0 0) 0 [] rfl hown ⟨o, 0, none⟩ 8 8 eight.toList rfl rfl HN.out H1.out (by unfold maxLen; omega) (by omega) (Nat.le_refl _) ?_); intro v' w1 hown1 hgrow _; obtain ⟨g, cap, cur, rfl, hg, hcur, -, -, -, hrow⟩ : ∃ g cap cur, v' = .slice (some ⟨g, 0, none⟩) (0 + 8) cap ∧ w.heap.size ≤ g ∧ w1.heap[g]? = some (.cells cur 9 (0, 0)) ∧ (0 + 8) ≤ cap ∧ cap ≤ maxLen ∧ cur.size = cap * 1 ∧ cur.toList.take ((0 + 8) * 1) = [] ++ eight.toList := by
  rcases hown1.2 with ⟨_, h0⟩ | h
  · omega
  · exact h
 have hlt : g < w1.heap.size := (Array.getElem?_eq_some_iff.1 hcur).1; have hbl : Bl w w1 := ((Bl.refl w).grown hgrow (Nat.le_refl _) (fun k hk => by cases hk)); go_wp2; go_ret; refine ⟨w1.heap.size, g, cap, rfl, hbl.size, by simp; omega, by omega, hg, ?_, ?_, hbl.alloc _⟩
 · unfold RB; exact heap_alloc_last _ _
 · intro j hj; rw [(((Bl.refl w1).alloc _).cells).1 g j hlt]; have hj' : eight.toList[j]? = some eight[j] := by simp [hj]
   have hj8 : j < (0 + 8) * 1 := hj; rw [show eight.toList = cur.toList.take ((0 + 8) * 1) from hrow.symm, List.getElem?_take_of_lt hj8] at hj'; simpa [World.cell?, hcur] using hj'
theorem E8.at {w : World} {o : Nat} (h : E8 w o) : w.cell? ⟨o, 0, none⟩ = some (.string ⟨#[38]⟩) ∧ w.cell? ⟨o, 1, none⟩ = some (.string ⟨#[38, 97, 109, 112, 59]⟩) ∧ w.cell? ⟨o, 2, none⟩ = some (.string ⟨#[60]⟩) ∧
 w.cell? ⟨o, 3, none⟩ = some (.string ⟨#[38, 108, 116, 59]⟩) ∧ w.cell? ⟨o, 4, none⟩ = some (.string ⟨#[62]⟩) ∧ w.cell? ⟨o, 5, none⟩ = some (.string ⟨#[38, 103, 116, 59]⟩) ∧
 w.cell? ⟨o, 6, none⟩ = some (.string ⟨#[34]⟩) ∧ w.cell? ⟨o, 7, none⟩ = some (.string ⟨#[38, 113, 117, 111, 116, 59]⟩) :=
 ⟨h 0 (by decide), h 1 (by decide), h 2 (by decide), h 3 (by decide), h 4 (by decide), h 5 (by decide), h 6 (by decide), h 7 (by decide)⟩
def Built (b : Nat) (x : Int) (w w' : World) : Prop := ∃ p, RB w' b 0 x (.iface 212 (.pointer (some ⟨p, 0, none⟩))) (.slice none 0 0) ∧ Bsr w' p ∧ p < w'.heap.size ∧ p ≠ b ∧ Mo b w w'
theorem buildOnce_c (b g cap : Nat) (x : Int) (w : World) (hR : RB w b 0 x .nilIface (.slice (some ⟨g, 0, none⟩) 8 cap)) (hE : E8 w g) (hg : g < w.heap.size) :
 Calls Tryz.prog 139 #[.pointer (some ⟨b, 0, none⟩)] w fun e w' => e = .returned (.tuple #[]) ∧ Built b x w w' := by
 obtain ⟨c0, c1, c2, c3, c4, c5, c6, c7⟩ := hE.at; have bt := build_t b g cap w hR.lt hg hR.cells.2.2.2.1 c0 c1 c2 c3 c4 c5 c6 c7; have BT := Lib.hid bt; clear bt c0 c1 c2 c3 c4 c5 c6 c7; go_enter Tryz.func139, Tryz.ntmps139; go_wp2_with (go_at_call 174; (with_reducible refine BT.out.mono ?_); rintro e w1 ⟨p, rfl, hp0, hp, hB, hb⟩; have hR1 := hR.of_bl hb; have hlt := hR1.lt; obtain ⟨-, -, q3, q4, qf⟩ := hR1.cells; have qf3 := qf 3; have qf4 := qf 4; clear qf); have hR2 := hR1.set3 (.iface 212 (.pointer (some ⟨p, 0, none⟩))); have hR3 := hR2.set4 (.slice none 0 0); have hB2 := hB.set (k := 3) (v := .iface 212 (.pointer (some ⟨p, 0, none⟩))) hR1; have hB3 := hB2.set (k := 4) (v := .slice none 0 0) hR2; have hpb : p ≠ b := by have := hR.lt; omega
 go_end0; exact ⟨rfl, p, hR3, hB3, by simpa [World.setCell] using hp, hpb, ((Mo.of_bl hb).set _ _).set _ _⟩
def Done (b : Nat) (w w' : World) : Prop := ∃ p, RB w' b 1 0 (.iface 212 (.pointer (some ⟨p, 0, none⟩))) (.slice none 0 0) ∧ Bsr w' p ∧ p < w'.heap.size ∧ Mo b w w'
theorem do_c (b g cap : Nat) (w : World) (hR : RB w b 0 0 .nilIface (.slice (some ⟨g, 0, none⟩) 8 cap)) (hE : E8 w g) (hg : g < w.heap.size) (hgb : g ≠ b) :
 Calls Tryz.prog 138 #[.pointer (some ⟨b, 0, none⟩), .func (.func 139) #[.pointer (some ⟨b, 0, none⟩)] #[]] w fun e w' => e = .returned (.tuple #[]) ∧ Done b w w' := by
 obtain ⟨q0, q1, -, -, qf⟩ := hR.cells; have hR1 := hR.set1 1; have hE1 : E8 (w.setCell ⟨b, 1, none⟩ (.int .i32 1)) g := fun j hj => (cell_far hgb).trans (hE j hj)
 have hB := buildOnce_c b g cap 1 _ hR1 hE1 (by simpa [World.setCell] using hg); refine (do_first b w (fun w' => Built b 1 (w.setCell ⟨b, 1, none⟩ (.int .i32 1)) w') q0 q1 (qf 0) (qf 1) (hB.mono fun e w' ⟨he, hb⟩ => by
  have hb' := hb; obtain ⟨p, h1, -⟩ := hb; obtain ⟨k0, k1, -, -, kf⟩ := h1.cells; exact ⟨he, k0, k1, kf 0, kf 1, hb'⟩)).mono ?_
 rintro e w1 ⟨rfl, w2, hb, rfl⟩; obtain ⟨p, h1, h2, h3, h4, h5⟩ := hb; have h1d : RB w2.drew b 0 1 (.iface 212 (.pointer (some ⟨p, 0, none⟩))) (.slice none 0 0) := h1; have h2d : Bsr w2.drew p := h2.of_bl h3 ((Bl.refl _).drew); have k1 := h1d.set0 1; have m1 := h2d.set (k := 0) (v := .int .u32 1) h1d; exact ⟨rfl, p, k1.set1 0, m1.set (k := 1) (v := .int .i32 0) k1, by simpa [World.setCell] using h3, (((((Mo.refl b w).set 1 (.int .i32 1)).trans h5).trans (Mo.of_bl ((Bl.refl _).drew))).set _ _).set _ _⟩
theorem nil_ahead (p : Nat) (w : World) : (nilAhead 157 212 (.pointer (some ⟨p, 0, none⟩)) "Replace").run Tryz.prog w = .ok (some false) w := by kernel_rfl
theorem method_replace (p : Nat) (w : World) : (method 157 212 (.pointer (some ⟨p, 0, none⟩)) "Replace").run Tryz.prog w = .ok (273, .pointer (some ⟨p, 0, none⟩)) w := by kernel_rfl
theorem replace_c (b g cap : Nat) (l : List UInt8) (hl : l.length ≤ 1099511627776) (w : World) (hR : RB w b 0 0 .nilIface (.slice (some ⟨g, 0, none⟩) 8 cap)) (hE : E8 w g) (hg : g < w.heap.size) (hgb : g ≠ b) :
 Calls Tryz.prog 107 #[.pointer (some ⟨b, 0, none⟩), .string ⟨l.toArray⟩] w fun e w' => e = .returned (.string ⟨(PutL l).toArray⟩) ∧ Mo b w w' := by
 have HD := Lib.hid (do_c b g cap w hR hE hg hgb); have na := nil_ahead; have mr := method_replace; go_enter Tryz.func107, Tryz.ntmps107; go_wp2_with (first | (go_at_call 138; (with_reducible refine HD.out.mono ?_); rintro e W ⟨rfl, p, k2, m2, hps, hw⟩; have z3 := k2.cells.2.2.1; have HC := Lib.hid (bsr_c p l hl W m2 hps)) | (go_at_call 273; (with_reducible refine HC.out.mono ?_); rintro e w3 ⟨rfl, hb3⟩)); go_ret; exact ⟨rfl, hw.trans (Mo.of_bl hb3)⟩
theorem E8_new (w : World) (T : TypeId) : E8 (w.alloc (.cells eight T)) w.heap.size := by
 intro j hj; rw [World.cell?_alloc_new]; exact Array.getElem?_eq_getElem hj
theorem put_c (l : List UInt8) (hl : l.length ≤ 1099511627776) (w : World) :
 Calls Tryz.prog 71 #[.string ⟨l.toArray⟩] w fun e w' => e = .returned (.string ⟨(PutL l).toArray⟩) ∧ Bl w w' := by
 have HN := Lib.hid (newR_c w.heap.size (w.alloc (.cells eight 9)) (by simp) (E8_new w _)); go_enter Tryz.func71, Tryz.ntmps71; go_wp2_with (first | (go_at_call 106; refine HN.out.mono ?_; rintro e w1 ⟨b, g, cap, rfl, hb0, hg, hgb, -, hR, hE, hb1⟩) | (go_at_call 107; refine (replace_c b g cap l hl _ hR hE hg hgb).mono ?_; rintro e w2 ⟨rfl, hm⟩)); go_ret; have h1 : Bl w w1 := ((Bl.refl w).alloc _).trans hb1; exact ⟨rfl, hm.bl h1 (by simp at hb0; omega)⟩
def short (l r : List UInt8) : List UInt8 := if 3000 < l.length then [] else r
theorem Put_c (l : List UInt8) (w : World) :
 Calls Tryz.prog 40 #[.string ⟨l.toArray⟩] w fun e w' => e = .returned (.tuple #[.string ⟨(short l (PutL l)).toArray⟩, .int .i64 (tooL l)]) ∧ Bl w w' := by
 by_cases h : 3000 < l.length
 · have h' : decide (3000 < l.length) = true := by simpa using h
   have HT := Lib.hid (show tooL l = 2 by unfold tooL; rw [if_pos h]); have HI := Lib.hid (show short l (PutL l) = [] by unfold short; rw [if_pos h]); clear h; go_enter Tryz.func40, Tryz.ntmps40; go_wp2_with (go_at_call 70; refine (long_c _ _).mono ?_; rintro e w' ⟨rfl, rfl⟩); go_ret2; exact ⟨by rw [HT.out, HI.out]; rfl, Bl.refl _⟩
 · have h' : decide (3000 < l.length) = false := by simpa using h
   have HT := Lib.hid (show tooL l = 0 by unfold tooL; rw [if_neg h]); have HI := Lib.hid (show short l (PutL l) = PutL l by unfold short; rw [if_neg h]); have hl : l.length ≤ 1099511627776 := by omega
   clear h; go_enter Tryz.func40, Tryz.ntmps40; go_wp2_with (first | (go_at_call 70; refine (long_c _ _).mono ?_; rintro e w' ⟨rfl, rfl⟩) | (go_at_call 71; refine (put_c _ hl _).mono ?_; rintro e w' ⟨rfl, hb⟩) | go_quiet (fail)); go_ret2; exact ⟨by rw [HT.out, HI.out]; rfl, hb⟩
def Dg (n base : Int) : Int :=
 let v := if 48 ≤ n ∧ n ≤ 57 then n - 48 else if 97 ≤ n ∧ n ≤ 102 then n - 97 + 10 else if 65 ≤ n ∧ n ≤ 70 then n - 65 + 10 else -1
 if base ≤ v then -1 else v
theorem between_c (a b c : Int) (w : World) :
 Calls Tryz.prog 28 #[.int .i64 a, .int .i64 b, .int .i64 c] w fun e w' => e = .returned (.bool (decide (b ≤ a) && decide (a ≤ c))) ∧ w = w' := by
 go_enter Tryz.func28, Tryz.ntmps28; go_wp2; all_goals (go_ret; exact ⟨ret_bool (by simp [*] <;> omega), rfl⟩)
theorem digit_c (n base : Int) (h0 : 0 ≤ n) (h1 : n ≤ 255) (w : World) :
 Calls Tryz.prog 170 #[.int .u8 n, .int .i64 base] w fun e w' => e = .returned (.int .i64 (Dg n base)) ∧ w = w' := by
 go_enter Tryz.func170, Tryz.ntmps170; go_wp2_with (go_at_call 28; refine (between_c _ _ _ _).mono ?_; rintro e w' ⟨rfl, rfl⟩); all_goals (go_ret; exact ⟨ret_int (by simp only [Dg]; (repeat' split) <;> omega), rfl⟩)
end Go.Proofs.YtamdlihgecpbkaaGreatDoor

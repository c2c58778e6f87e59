/- Tokens: the reader's steps, said by what is left of the text; begins, letterAt, to, Folded. · Tokens: small letters: Folded of the program, FoldOf of the reference. · Trees: what building, checking and flattening answer, said by plain functions; plain laws. · Rows of the call's own: append, told whether the row lies where it lay. · Tokens: a value behind a =. · Tokens: attributes in memory; slices.ContainsFunc on them. · Tokens in memory; SameAttrs, SameTokens. · Trees in memory: what is read; the call's own. -/
import Derived.Test.YtamdlihgecpbkaaGreatDoorTokD
import Derived.Test.YtamdlihgecpbkaaGreatDoorGrpE
import Derived.Test.YtamdlihgecpbkaaGreatDoorGrpA
import Derived.ArgAppend
import Derived.Laws.OwnMore
import Derived.Deep.RegionLaw
import Derived.Laws.StructEq
set_option maxHeartbeats 2000000
namespace Go.Proofs.YtamdlihgecpbkaaGreatDoor
open Go.RowKit
structure Rr (w : World) (b : Nat) (s t x : List UInt8) (v : Value) : Prop where
 rk : Rk w b s (s.length - t.length) x v
 sf : t <:+ s
theorem sfx_drop {s t : List UInt8} (h : t <:+ s) : s.drop (s.length - t.length) = t := by
 obtain ⟨p, rfl⟩ := h; simp
theorem Rr.of_bl {w w' : World} {b : Nat} {s t x : List UInt8} {v : Value} (h : Rr w b s t x v) (hb : Bl w w') : Rr w' b s t x v := ⟨h.rk.of_bl hb, h.sf⟩
theorem Rr.len {w : World} {b : Nat} {s t x : List UInt8} {v : Value} (h : Rr w b s t x v) : t.length ≤ s.length := h.sf.length_le
theorem here_r (N : Nat) (p : UInt8 → Bool) (hD : Do N #[] p Tr) (b : Nat) (s t x : List UInt8) (v : Value) (w : World) (hR : Rr w b s t x v) (hs : s.length ≤ 1099511627776) :
 Calls Tryz.prog 179 #[.pointer (some ⟨b, 0, none⟩), .func (.func N) #[] #[]] w fun e w' => e = .returned (.bool (hd p t)) ∧ Qt w w' := by
 have := here_c N #[] p Tr hD b _ s x v w trivial hR.rk hs; rwa [sfx_drop hR.sf] at this
theorem pass_r0 (N : Nat) (cap : Array Value) (p : UInt8 → Bool) (I : World → Prop) (hD : Do N cap p I) (b : Nat) (s t x : List UInt8) (v : Value) (w : World) (hI : I w) (hI2 : ∀ W u, I W → I (W.setCell ⟨b, 1, none⟩ u)) (hR : Rr w b s t x v) (hs : s.length ≤ 1099511627776) :
 Calls Tryz.prog 151 #[.pointer (some ⟨b, 0, none⟩), .func (.func N) #[] cap] w fun e w' => e = .returned (.string ⟨(t.takeWhile p).toArray⟩) ∧
  Rr w' b s (t.dropWhile p) x v ∧ w.grownBy w' (some b) := by
 refine (pass_c N cap p I hD b _ s x v w hI hI2 hR.rk (Nat.sub_le _ _) hs).mono ?_; rintro e w' ⟨rfl, h1, h2, -⟩; rw [sfx_drop hR.sf] at h1 ⊢; have hl := hR.len; have e : s.length - t.length + (t.takeWhile p).length = s.length - (t.dropWhile p).length := by
  have := congrArg List.length (List.takeWhile_append_dropWhile (p := p) (l := t)); rw [List.length_append] at this; omega
 rw [e] at h1; exact ⟨rfl, ⟨h1, (List.dropWhile_suffix p).trans hR.sf⟩, h2⟩
theorem pass_r (N : Nat) (p : UInt8 → Bool) (hD : Do N #[] p Tr) (b : Nat) (s t x : List UInt8) (v : Value) (w : World) (hR : Rr w b s t x v) (hs : s.length ≤ 1099511627776) :
 Calls Tryz.prog 151 #[.pointer (some ⟨b, 0, none⟩), .func (.func N) #[] #[]] w fun e w' => e = .returned (.string ⟨(t.takeWhile p).toArray⟩) ∧
  Rr w' b s (t.dropWhile p) x v ∧ w.grownBy w' (some b) := pass_r0 N #[] p Tr hD b s t x v w trivial (Tr2 b) hR hs
theorem need_end (b : Nat) (s x : List UInt8) (v : Value) (w : World) (hR : Rr w b s [] x v) :
 Calls Tryz.prog 199 #[.pointer (some ⟨b, 0, none⟩)] w fun e w' => e = .panicked OPN ∧ Qt w w' := need_no b s x v w (by simpa using hR.rk)
theorem need_r (b : Nat) (s : List UInt8) (c : UInt8) (t x : List UInt8) (v : Value) (w : World) (hR : Rr w b s (c :: t) x v) (hs : s.length ≤ 1099511627776) :
 Calls Tryz.prog 199 #[.pointer (some ⟨b, 0, none⟩)] w fun e w' => e = .returned (.int .u8 (c.toNat : Int)) ∧ Rr w' b s t x v ∧ w.grownBy w' (some b) := by
 have hl := hR.len; simp only [List.length_cons] at hl; have hd := sfx_drop hR.sf; rw [List.length_cons] at hd; have hk : s.length - (t.length + 1) < s.length := by omega
 have hc : s[s.length - (t.length + 1)] = c := by
  have := List.drop_eq_getElem_cons hk; rw [hd] at this; exact (List.cons.inj this).1.symm
 refine (need_yes b _ s x v w hR.rk hk hs).mono ?_; rintro e w' ⟨rfl, h1, h2⟩; refine ⟨by simp only [List.length_cons, hc], ⟨?_, (List.suffix_cons c t).trans hR.sf⟩, h2⟩; rw [show s.length - t.length = s.length - (c :: t).length + 1 by simp only [List.length_cons]; omega]; exact h1
theorem begins_r (p : List UInt8) (b : Nat) (s t x : List UInt8) (v : Value) (w : World) (hR : Rr w b s t x v) (_hs : s.length ≤ 1099511627776) :
 Calls Tryz.prog 150 #[.pointer (some ⟨b, 0, none⟩), .string ⟨p.toArray⟩] w fun e w' => e = .returned (.bool (pre p t)) ∧ Qt w w' := by
 obtain ⟨c0, c1, c2, c3, f0, f1, f2, f3⟩ := hR.rk.cells; have hd := sfx_drop hR.sf; have hk : s.length - t.length ≤ s.length := Nat.sub_le _ _; obtain ⟨k, hk'⟩ : ∃ k, k = s.length - t.length := ⟨_, rfl⟩; rw [← hk'] at c1 hd hk; have HD := Lib.hid hd; clear hR hk' hd; go_enter Tryz.func150, Tryz.ntmps150; go_wp2_with (go_quiet (first | (go_at_call 175; exact quiet_eq (hasPrefix_c (s.drop k) p _)))); go_ret; exact ⟨by rw [← HD.out]; rfl, (Qt.refl _).drewN _⟩
theorem letterAt_r (m : Nat) (hm : m ≤ 2) (b : Nat) (s t x : List UInt8) (v : Value) (w : World) (hR : Rr w b s t x v) (hs : s.length ≤ 1099511627776) :
 Calls Tryz.prog 153 #[.pointer (some ⟨b, 0, none⟩), .int .i64 (m : Int)] w fun e w' => e = .returned (.bool (hd ltr (t.drop m))) ∧ Qt w w' := by
 obtain ⟨c0, c1, c2, c3, f0, f1, f2, f3⟩ := hR.rk.cells; have hd := sfx_drop hR.sf; have hk : s.length - t.length ≤ s.length := Nat.sub_le _ _; obtain ⟨k, hk'⟩ : ∃ k, k = s.length - t.length := ⟨_, rfl⟩; rw [← hk'] at c1 hd hk; rw [← hd, List.drop_drop]; clear hR hk' hd; by_cases hlt : k + m < s.length
 · have hlt' : (k : Int) + (m : Int) < (s.length : Int) := by omega
   have H1 := Lib.hid (hd_drop ltr s (k + m) hlt); have hn : ((k : Int) + (m : Int)).toNat = k + m := by omega
   have h0 : (0 : Int) ≤ (k : Int) + (m : Int) := by omega
   go_enter Tryz.func153, Tryz.ntmps153; go_wp2_with (go_quiet (first | (go_at_call 180; exact quiet_eq (letter_c s[k + m] _)))); go_ret; exact ⟨by rw [H1.out]; rfl, (Qt.refl _).drewN _⟩
 · have hlt' : decide ((k : Int) + (m : Int) < (s.length : Int)) = false := by simp; omega
   have H1 := Lib.hid (hd_end ltr s (k + m) (by omega)); go_enter Tryz.func153, Tryz.ntmps153; go_wp2_with (go_quiet (fail)); go_ret; exact ⟨by rw [H1.out]; rfl, (Qt.refl _).drewN _⟩
def ML (w : World) : Prop := ∃ m, 0 < w.heap.size ∧ w.cell? ⟨0, 0, none⟩ = some (.int .i64 m)
theorem ML.of_bl {w w' : World} (h : ML w) (hb : Bl w w') : ML w' := by
 obtain ⟨m, h1, h2⟩ := h; exact ⟨m, Nat.lt_of_lt_of_le h1 (Below.size hb), (hb.cells.1 _ 0 h1).trans h2⟩
theorem ML.of_gb {w w' : World} {b : Nat} (h : ML w) (hg : w.grownBy w' (some b)) (hb : 0 < b) : ML w' := by
 obtain ⟨m, h1, h2⟩ := h; exact ⟨m, Nat.lt_of_lt_of_le h1 hg.size, hg.cell h2 (by simp; omega)⟩
theorem find_c (l p : List UInt8) (hl : l.length ≤ 4294967280) (w : World) (hM : ML w) :
 Calls Tryz.prog 93 #[.string ⟨l.toArray⟩, .string ⟨p.toArray⟩] w fun e w' => e = .returned (.int .i64 (Lib.index l p)) ∧ w = w' := by
 obtain ⟨m, h1, h2⟩ := hM; exact (Tryz.strings_Index ⟨l.toArray⟩ ⟨p.toArray⟩ m w (by simp [ByteArray.size]; omega) h2).mono fun _ _ ⟨he, hw⟩ => ⟨he, hw.symm⟩
theorem cutS_index (p : List UInt8) (hp : p ≠ []) : ∀ l : List UInt8, (Lib.index l p = -1 ∧ cutS p l = none) ∨ (∃ i : Nat, Lib.index l p = i ∧ i + p.length ≤ l.length ∧ cutS p l = some (l.drop (i + p.length))) := by
 intro l; induction l with
 | nil =>
   left; cases p with
   | nil => exact absurd rfl hp
   | cons a p => exact ⟨rfl, rfl⟩
 | cons c l ih =>
   by_cases h : pre p (c :: l) = true
   · right; refine ⟨0, ?_, by have := pre_len h; omega, ?_⟩
     · unfold Lib.index; rw [show p.isPrefixOf (c :: l) = true from h]; rfl
     · unfold cutS; rw [if_pos h]; simp
   · have h' : p.isPrefixOf (c :: l) = false := Bool.eq_false_iff.2 h; rcases ih with ⟨h1, h2⟩ | ⟨i, h1, h2, h3⟩
     · left; refine ⟨?_, ?_⟩
       · unfold Lib.index; rw [h', h1]; rfl
       · unfold cutS; rw [if_neg h, h2]
     · right; refine ⟨i + 1, ?_, by simp only [List.length_cons]; omega, ?_⟩
       · unfold Lib.index; rw [h', h1]; have : ((i : Int) == -1) = false := by rw [beq_eq_false_iff_ne]; omega
         simp [this]
       · unfold cutS; rw [if_neg h, h3, Nat.add_right_comm]; rfl
theorem to_no (p : List UInt8) (hp : p ≠ []) (_hp2 : p.length ≤ 3) (m : Nat) (hm : m ≤ 2) (b : Nat) (s t x : List UInt8) (v : Value) (w : World) (hR : Rr w b s t x v) (hs : s.length ≤ 4294967280) (hM : ML w) (hc : cutS p (t.drop m) = none) :
 Calls Tryz.prog 155 #[.pointer (some ⟨b, 0, none⟩), .string ⟨p.toArray⟩, .int .i64 (m : Int)] w fun e w' => e = .panicked OPN ∧ Qt w w' := by
 obtain ⟨c0, c1, c2, c3, f0, f1, f2, f3⟩ := hR.rk.cells; have hd := sfx_drop hR.sf; have hk : s.length - t.length ≤ s.length := Nat.sub_le _ _; obtain ⟨k, hk'⟩ : ∃ k, k = s.length - t.length := ⟨_, rfl⟩; rw [← hk'] at c1 hd hk; rw [← hd, List.drop_drop] at hc; have hi : Lib.index (s.drop (k + m)) p = -1 := by
  rcases cutS_index p hp (s.drop (k + m)) with ⟨h1, _⟩ | ⟨i, _, _, h3⟩
  · exact h1
  · rw [hc] at h3; cases h3
 have hmin : min (s.length : Int) ((k : Int) + (m : Int)) = ((min s.length (k + m) : Nat) : Int) := by omega
 have hmd : s.drop (min s.length (k + m)) = s.drop (k + m) := by
  rcases Nat.le_total s.length (k + m) with h | h
  · rw [Nat.min_eq_left h, List.drop_eq_nil_of_le (Nat.le_refl _), List.drop_eq_nil_of_le h]
  · rw [Nat.min_eq_right h]
 have hml : min s.length (k + m) ≤ s.length := Nat.min_le_left _ _; obtain ⟨j, hj⟩ : ∃ j, j = min s.length (k + m) := ⟨_, rfl⟩; rw [← hj] at hmin hmd hml; have FC := Lib.hid (fun n : Nat => find_c (s.drop j) p (by simp; omega) (w.drewN n) (hM.of_bl ((Bl.refl _).drewN n))); rw [hmd, hi] at FC; rw [← hmd] at FC; clear hR hk' hd hc hi hmd hj; go_enter Tryz.func155, Tryz.ntmps155; go_wp2_with (go_quiet (first | (go_at_call 93; exact quiet_eq (FC.out _)))); exact ⟨rfl, rfl, (Qt.refl _).drewN _⟩
theorem to_yes (p : List UInt8) (hp : p ≠ []) (hp2 : p.length ≤ 3) (m : Nat) (hm : m ≤ 2) (b : Nat) (s t x u : List UInt8) (v : Value) (w : World) (hR : Rr w b s t x v) (hs : s.length ≤ 4294967280) (hM : ML w) (hc : cutS p (t.drop m) = some u) :
 Calls Tryz.prog 155 #[.pointer (some ⟨b, 0, none⟩), .string ⟨p.toArray⟩, .int .i64 (m : Int)] w fun e w' => e = .returned (.tuple #[]) ∧ Rr w' b s u x v ∧ w.grownBy w' (some b) := by
 obtain ⟨c0, c1, c2, c3, f0, f1, f2, f3⟩ := hR.rk.cells; have hd := sfx_drop hR.sf; have hk : s.length - t.length ≤ s.length := Nat.sub_le _ _; have hRk := hR.rk; obtain ⟨k, hk'⟩ : ∃ k, k = s.length - t.length := ⟨_, rfl⟩; rw [← hk'] at c1 hd hk hRk; rw [← hd, List.drop_drop] at hc; obtain ⟨i, hi, hil, hu⟩ : ∃ i : Nat, Lib.index (s.drop (k + m)) p = i ∧ i + p.length ≤ (s.drop (k + m)).length ∧ u = s.drop (k + m + (i + p.length)) := by
  rcases cutS_index p hp (s.drop (k + m)) with ⟨_, h1⟩ | ⟨i, h1, h2, h3⟩
  · rw [hc] at h1; cases h1
  · rw [hc, List.drop_drop] at h3; exact ⟨i, h1, h2, Option.some.inj h3⟩
 rw [List.length_drop] at hil; have hp0 : 0 < p.length := List.length_pos_iff.2 hp; have hkm : k + m ≤ s.length := by omega
 have hmin : min (s.length : Int) ((k : Int) + (m : Int)) = ((k + m : Nat) : Int) := by omega
 have FC := Lib.hid (fun n : Nat => find_c (s.drop (k + m)) p (by simp; omega) (w.drewN n) (hM.of_bl ((Bl.refl _).drewN n))); rw [hi] at FC; have hul : k + m + (i + p.length) = s.length - u.length := by rw [hu, List.length_drop]; omega
 have HU := Lib.hid hul; have HS := Lib.hid (show u <:+ s by rw [hu]; exact List.drop_suffix _ _); have i0 : ¬ (i : Int) < 0 := by omega
 have hib : k + m + i + p.length ≤ s.length := by omega
 clear hR hk' hd hc hi hu hul; go_enter Tryz.func155, Tryz.ntmps155; go_wp2_with (go_quiet (first | (go_at_call 93; exact quiet_eq (FC.out _)))); go_end0; exact ⟨rfl, ⟨(hRk.of_bl ((Bl.refl _).drewN _)).seti (by rw [← HU.out]; omega), HS.out⟩, gb_set (gb_drewN (gb_refl _ _) _) _ _⟩
theorem fld_nat (c : UInt8) : (fld c).toNat = if 65 ≤ c.toNat ∧ c.toNat ≤ 90 then c.toNat + 32 else c.toNat := by
 unfold fld; split
 · rename_i h; rw [UInt8.toNat_add]; simp only [show (32 : UInt8).toNat = 32 from rfl]; omega
 · rfl
theorem fold_len (l : List UInt8) : (fold l).length = l.length := by simp [fold]
theorem conv_cap (W : World) (g cap : Nat) (l : List UInt8) (h : BA W g l) : (convert 60 9 (.slice (some ⟨g, 0, none⟩) l.length cap)).run Tryz.prog W = .ok (.string ⟨l.toArray⟩) W := by
 have h1 := run_convert_bytes_arg (P := Tryz.prog) W 60 5 Tryz.underlying60 Tryz.underlying5 g 0 l.length cap (l.map fun c => (c.toNat : Int)) (by simp) (fun i hi => by
  rw [Nat.zero_add, h i hi]; simp [List.getD, hi]) 9 Tryz.underlying9
 have e : (l.map fun c => (c.toNat : Int)).map (fun n => UInt8.ofNat n.toNat) = l := by
  rw [List.map_map]; exact (List.map_congr_left (fun c _ => by simp)).trans (List.map_id l)
 rw [h1, strOfNums, e]
def FA (w : World) (g : Nat) (l : List UInt8) (k : Nat) : Prop := ∀ i, (h : i < l.length) → w.cell? ⟨g, i, none⟩ = some (.int .u8 ((if i < k then fld l[i] else l[i]).toNat : Int)) ∧ w.frozen? ⟨g, i, none⟩ = false
theorem FA.skip {w : World} {g k : Nat} {l : List UInt8} (h : FA w g l k) (hk : k < l.length) (hs : fld l[k] = l[k]) : FA w g l (k + 1) := by
 intro i hi; refine ⟨?_, (h i hi).2⟩; rw [(h i hi).1]; by_cases e : i = k
 · subst e; simp [hs]
 · have : (i < k + 1) = (i < k) := by simp; omega
   simp only [this]
theorem FA.set {w : World} {g k : Nat} {l : List UInt8} (h : FA w g l k) (hk : k < l.length) {n : Int} (hn : n = ((fld l[k]).toNat : Int)) : FA (w.setCell ⟨g, k, none⟩ (.int .u8 n)) g l (k + 1) := by
 intro i hi; by_cases e : i = k
 · subst e; refine ⟨?_, by rw [World.frozen?_setCell]; exact (h i hi).2⟩; rw [hn, World.cell?_setCell_same w _ _ (by rw [(h i hi).1])]; simp
 · refine ⟨?_, by rw [World.frozen?_setCell]; exact (h i hi).2⟩; rw [World.cell?_setCell_other w _ _ _ (by simp []), (h i hi).1]; have : (i < k + 1) = (i < k) := by simp; omega
   simp only [this]
theorem FA_brow (w : World) (l : List UInt8) (cap : Nat) (t : TypeId) : FA (w.alloc (brow l cap t)) w.heap.size l 0 := by
 intro i hi; refine ⟨by rw [BA_brow w l cap t i hi]; simp, ?_⟩; unfold brow; rw [World.frozen?_alloc_mark]; simp [bytesRow]; omega
theorem folded_c (l : List UInt8) (hl : l.length ≤ 1099511627776) (w : World) :
 Calls Tryz.prog 57 #[.string ⟨l.toArray⟩] w fun e w' => e = .returned (.string ⟨(fold l).toArray⟩) ∧ Bl w w' := by
 have hcv := of_str; have HCV := Lib.hid (conv_cap); go_enter Tryz.func57, Tryz.ntmps57; go_wp2; go_loopw [4, 5, 10] (fun _ _ i wr => ∃ k : Nat, k ≤ l.length ∧ i = .int .i64 k ∧ FA wr w.heap.size l k ∧ Below w.heap.size w wr) (fun _ _ i _ => l.length - (intOf i).toNat); case atStart => exact ⟨0, Nat.zero_le _, rfl, FA_brow w.drew l _ _, (Bl.refl _).drew.alloc _⟩
 case round =>
  obtain ⟨k, hk, rfl, hF, hbl⟩ := hrel; by_cases hlt : k < l.length
  · have hc := u8_lt l[k]; have hck := (hF k hlt).1; simp only [Nat.lt_irrefl, if_false] at hck; have hfk := (hF k hlt).2; have hfn := fld_nat l[k]; by_cases hu : 65 ≤ l[k].toNat ∧ l[k].toNat ≤ 90
    · rw [if_pos hu] at hfn; have HU := Lib.hid hfn; obtain ⟨u1, u2⟩ := hu; have u1' : (65 : Int) ≤ (l[k].toNat : Int) := by omega
      have u2' : (l[k].toNat : Int) ≤ 90 := by omega
      clear hfn; go_wp2; go_roundw; case rel => exact ⟨k + 1, by omega, by go_num, hF.set hlt (by rw [HU.out]; omega), Below.setCell hbl (Nat.le_refl _) _⟩
      case measure => simp [intOf]; omega
    · rw [if_neg hu] at hfn; have HU := Lib.hid (UInt8.toNat_inj.1 hfn); have hu' : (decide ((65 : Int) ≤ (l[k].toNat : Int)) && decide ((l[k].toNat : Int) ≤ 90)) = false := by
       cases h : (decide ((65 : Int) ≤ (l[k].toNat : Int)) && decide ((l[k].toNat : Int) ≤ 90))
       · rfl
       · simp only [Bool.and_eq_true, decide_eq_true_eq] at h; omega
      have HU2 := Lib.hid hu; clear hfn hu; go_wp2; all_goals first
       | (exfalso; have := HU2.out; omega)
       | (go_roundw
          case rel => exact ⟨k + 1, by omega, by go_num, hF.skip hlt HU.out, hbl⟩
          case measure => simp [intOf]; omega)
  · have hB : BA wr w.heap.size (fold l) := by
     intro i hi; rw [fold_len] at hi; rw [(hF i hi).1, if_pos (by omega)]; simp [fold]
    have hcv2 := fun cap => conv_cap wr w.heap.size cap (fold l) hB
    rw [fold_len] at hcv2; clear hcv; go_wp2; go_ret; exact ⟨rfl, hbl⟩
def bcs (l : List UInt8) : List Value := l.map fun c => .int .u8 (c.toNat : Int)
theorem new_cells (w : World) (c : Array Value) (e : TypeId) : ∀ j u, c.toList[j]? = some u → (w.alloc (.cells c e)).cell? ((⟨w.heap.size, 0, none⟩ : Addr).add j) = some u := by
 intro j u h; have hadd : (⟨w.heap.size, 0, none⟩ : Addr).add j = ⟨w.heap.size, j, none⟩ := by unfold Addr.add; split <;> simp_all
 rw [hadd]; simpa using h
theorem conv_own (W : World) (base : Nat) (v : Value) (l : List UInt8) (h : W.ownsRow base 5 1 v l.length (bcs l)) : (convert 60 9 v).run Tryz.prog W = .ok (.string ⟨l.toArray⟩) W := by
 rcases h.2 with ⟨rfl, h0⟩ | ⟨g, cap, cur, rfl, -, -, -⟩
 · obtain rfl := List.eq_nil_of_length_eq_zero h0; have := run_convert_bytes_nil (P := Tryz.prog) W 60 5 Tryz.underlying60 Tryz.underlying5 0 0; exact this _ Tryz.underlying9
 · refine conv_cap W g cap l (fun i hi => ?_); have := h.cells (g := g) rfl i (.int .u8 (l[i].toNat : Int)) (by simp [bcs, hi]); by_cases e : i = 0
   · subst e; simpa [Addr.add] using this
   · simpa [Addr.add, e] using this
theorem Tryz.infoU8 : (Tryz.prog.info? 5).map (fun i => (i.zero, i.size, i.bytes)) = some (some (.int .u8 0), 1, 1) := by kernel_rfl
theorem foldOf_c (l : List UInt8) (hl : l.length ≤ 1099511627776) (w : World) :
 Calls Tryz.prog 37 #[.string ⟨l.toArray⟩] w fun e w' => e = .returned (.string ⟨(fold l).toArray⟩) ∧ Bl w w' := by
 obtain ⟨i0, hi, hz0, hz1, hz2⟩ := info_parts Tryz.infoU8; go_enter Tryz.func37, Tryz.ntmps37; go_wp2; go_loopw [3, 4, 5] (fun v i _ wr => ∃ k : Nat, k ≤ l.length ∧ i = .int .i64 k ∧ wr.ownsRow w.heap.size 5 1 v (fold (l.take k)).length (bcs (fold (l.take k))) ∧ Below w.heap.size w wr) (fun _ i _ _ => l.length - (intOf i).toNat); case atStart => exact ⟨0, Nat.zero_le _, rfl, World.ownsRow_nil _ _ _ _, Bl.refl _⟩
 case round =>
  obtain ⟨k, hk, rfl, hown, hbl⟩ := hrel; have hsz := Below.size hbl; by_cases hlt : k < l.length
  · have hc := u8_lt l[k]; have hfn := fld_nat l[k]; have hkl : (fold (l.take k)).length = k := by simp [fold]; omega
    have HT := Lib.hid (show bcs (fold (l.take (k + 1))) = bcs (fold (l.take k)) ++ [.int .u8 ((fld l[k]).toNat : Int)] by rw [take_snoc l k hlt]; unfold bcs fold; rw [List.map_append, List.map_append]; rfl); have HL := Lib.hid (show (fold (l.take (k + 1))).length = k + 1 by simp [fold]; omega); rw [hkl] at hown; clear hkl; by_cases hu : 65 ≤ l[k].toNat ∧ l[k].toNat ≤ 90
    · rw [if_pos hu] at hfn; have HU := Lib.hid hfn; obtain ⟨u1, u2⟩ := hu; have u1' : (65 : Int) ≤ (l[k].toNat : Int) := by omega
      have u2' : (l[k].toNat : Int) ≤ 90 := by omega
      clear hfn; go_wp2_with (first | (go_at_call 28; refine (between_c _ _ _ _).mono ?_; rintro e w' ⟨rfl, rfl⟩) | (at_builtin; refine wpList_append_own _ rfl _ _ 60 rfl w.heap.size 5 i0 (.int .u8 0) 1 1 Tryz.underlying60 hi hz0 hz1 hz2 rfl (by decide) _ _ _ rfl (hown.alloc _) ⟨wr.heap.size, 0, none⟩ 1 1 [.int .u8 ((l[k].toNat : Int) + 32)] rfl rfl (new_cells wr #[.int .u8 ((l[k].toNat : Int) + 32)] _) (by simp [Value.oneCell']) (by unfold maxLen; omega) (by omega) (by simp; omega) ?_))
      · intro v' w1 hown' hgrow _; have hB' := (hbl.alloc hsz _).grown hgrow (by simp; omega) (fun g hg => (hown.lt g hg).1); have hO : w1.ownsRow w.heap.size 5 1 v' (fold (l.take (k + 1))).length (bcs (fold (l.take (k + 1)))) := by
         rw [HL.out, HT.out, HU.out]; simpa using hown'
        clear hown' hgrow hown; go_wp2; go_roundw; case rel => exact ⟨k + 1, by omega, by go_num, hO, hB'⟩
        case measure => simp [intOf]; omega
    · rw [if_neg hu] at hfn; have HU := Lib.hid (UInt8.toNat_inj.1 hfn); have hu' : (decide ((65 : Int) ≤ (l[k].toNat : Int)) && decide ((l[k].toNat : Int) ≤ 90)) = false := by
       cases h : (decide ((65 : Int) ≤ (l[k].toNat : Int)) && decide ((l[k].toNat : Int) ≤ 90))
       · rfl
       · simp only [Bool.and_eq_true, decide_eq_true_eq] at h; omega
      have HU2 := Lib.hid hu; clear hfn hu; go_wp2_with (first | (go_at_call 28; refine (between_c _ _ _ _).mono ?_; rintro e w' ⟨rfl, rfl⟩) | (at_builtin; refine wpList_append_own _ rfl _ _ 60 rfl w.heap.size 5 i0 (.int .u8 0) 1 1 Tryz.underlying60 hi hz0 hz1 hz2 rfl (by decide) _ _ _ rfl (hown.alloc _) ⟨wr.heap.size, 0, none⟩ 1 1 [.int .u8 (l[k].toNat : Int)] rfl rfl (new_cells wr #[.int .u8 (l[k].toNat : Int)] _) (by simp [Value.oneCell']) (by unfold maxLen; omega) (by omega) (by simp; omega) ?_)); all_goals first
       | (exfalso; have := HU2.out; omega)
       | skip
      · intro v' w1 hown' hgrow _; have hB' := (hbl.alloc hsz _).grown hgrow (by simp; omega) (fun g hg => (hown.lt g hg).1); have hO : w1.ownsRow w.heap.size 5 1 v' (fold (l.take (k + 1))).length (bcs (fold (l.take (k + 1)))) := by
         rw [HL.out, HT.out, HU.out]; exact hown'
        clear hown' hgrow hown; go_wp2; go_roundw; case rel => exact ⟨k + 1, by omega, by go_num, hO, hB'⟩
        case measure => simp [intOf]; omega
  · have HE := Lib.hid (show l.take k = l from List.take_of_length_le (by omega)); rw [HE.out] at hown; have hcv := fun v h => conv_own wr w.heap.size v (fold l) h
    have hcv2 := hcv _ hown; clear hcv; go_wp2; go_ret; exact ⟨rfl, hbl⟩
theorem isNm_ne {n : List UInt8} (h : isNm n = true) : n ≠ [] := by rintro rfl; simp [isNm] at h
inductive Nd where
 | mk (n : List UInt8) (a : List Atr) (x : List UInt8) (k : List Nd)
def Nd.n : Nd → List UInt8 | .mk n _ _ _ => n
def Nd.a : Nd → List Atr | .mk _ a _ _ => a
def Nd.x : Nd → List UInt8 | .mk _ _ x _ => x
def Nd.k : Nd → List Nd | .mk _ _ _ k => k
theorem Nd.ind {P : List Nd → Prop} (h0 : P []) (h1 : ∀ n a x k l, P k → P l → P (.mk n a x k :: l)) (l : List Nd) : P l :=
 Nd.rec_1 (motive_1 := fun d => P d.k) (motive_2 := P) (fun _ _ _ _ ih => ih) h0 (fun d l i1 i2 => by cases d; exact h1 _ _ _ _ _ i1 i2) l
abbrev Nm := List UInt8
def sP : Nm := [112]
def sLi : Nm := [108, 105]
def sUl : Nm := [117, 108]
def sOl : Nm := [111, 108]
def sBq : Nm := [98, 108, 111, 99, 107, 113, 117, 111, 116, 101]
def sBr : Nm := [98, 114]
def sHr : Nm := [104, 114]
def sImg : Nm := [105, 109, 103]
def emptyN (n : Nm) : Bool := decide (n = sBr) || decide (n = sHr) || decide (n = sImg)
def ulolN (n : Nm) : Bool := decide (n = sUl) || decide (n = sOl)
def wallN (n : Nm) : Bool := decide (n = sUl) || decide (n = sOl) || decide (n = sLi) || decide (n = sBq)
def blkN (n : Nm) : Bool := wallN n || decide (n = sP) || decide (n = sHr)
def abv (nm : Nm) (stop : Nm → Bool) : List Nm → Option Nat
 | [] => none
 | x :: r => if x = nm then some r.length else if stop x then none else abv nm stop r
def cls1 (r : List Nm) (nm : Nm) : Nat := if blkN nm then (abv sP wallN r).getD r.length else r.length
def cls (r : List Nm) (nm : Nm) : Nat := if nm = sLi then (abv sLi ulolN (r.drop (r.length - cls1 r nm))).getD (cls1 r nm) else cls1 r nm
def pt (l : List Nd) (d : Nd) : List Nd :=
 match l.getLast? with
 | some (.mk [] a x k) => if d.n = [] then l.dropLast ++ [.mk [] a (x ++ d.x) k] else l ++ [d]
 | _ => l ++ [d]
abbrev St := List Nd × List (Nm × List Atr × List Nd)
def put (s : St) (d : Nd) : St := match s with
 | (r, []) => (pt r d, [])
 | (r, (n, a, k) :: f) => (r, (n, a, pt k d) :: f)
def pop (s : St) : St := match s with
 | (r, []) => (r, [])
 | (r, (n, a, k) :: f) => put (r, f) (.mk n a [] k)
def pops : Nat → St → St
 | 0, s => s
 | j + 1, s => pops j (pop s)
def nms (s : St) : List Nm := s.2.map (·.1)
def opn (s : St) (n : Nm) (a : List Atr) : St :=
 if s.2.length = 8 then s else if emptyN n then put s (.mk n a [] []) else (s.1, (n, a, []) :: s.2)
def stp (s : St) (t : Tok) : St :=
 if t.1 = 1 then put s (.mk [] [] t.2.2.2 [])
 else if t.1 = 2 then opn (pops (s.2.length - cls (nms s) t.2.1) s) t.2.1 t.2.2.1
 else if t.1 = 3 then (match abv t.2.1 (fun _ => false) (nms s) with | some i => pops (s.2.length - i) s | none => s)
 else s
def fin (s : St) : List Nd := (pops s.2.length s).1
def ofM (l : List Tok) : List Nd := fin (l.foldl stp ([], []))
mutual
def fltN : Nd → List Tok
 | .mk n a x k => if n = [] then [(1, [], [], x)] else (2, n, a, []) :: (if emptyN n then [] else fltL k ++ [(3, n, [], [])])
def fltL : List Nd → List Tok
 | [] => []
 | d :: l => fltN d ++ fltL l
end
mutual
def manyN (f : Nat) : Nd → Nat
 | .mk n _ _ k => if n = [] then 1 else match f with | 0 => 1 | f + 1 => 1 + manyL f k
def manyL (f : Nat) : List Nd → Nat
 | [] => 0
 | d :: l => manyN f d + manyL f l
end
mutual
def deepN (f : Nat) : Nd → Nat
 | .mk n _ _ k => if n = [] then 0 else match f with | 0 => 1 | f + 1 => 1 + deepL f k
def deepL (f : Nat) : List Nd → Nat
 | [] => 0
 | d :: l => max (deepN f d) (deepL f l)
end
def ndE (r : List Nm) : Nd → Int
 | .mk n a x k => if n = [] then (if x = [] ∨ a ≠ [] ∨ k ≠ [] then 1 else 0)
   else if x ≠ [] ∨ isNm n = false ∨ (emptyN n = true ∧ k ≠ []) then 1 else if atE a ≠ 0 then atE a else if cls r n < r.length then 4 else 0
mutual
def ckN (r : List Nm) (prev : Bool) : Nd → Int
 | .mk n a x k => if ndE r (.mk n a x k) ≠ 0 then ndE r (.mk n a x k) else if prev = true ∧ n = [] then 4 else ckL (n :: r) false k
def ckL (r : List Nm) (prev : Bool) : List Nd → Int
 | [] => 0
 | d :: l => if ckN r prev d ≠ 0 then ckN r prev d else ckL r (decide (d.n = [])) l
end
def ckT (l : List Nd) : Int := if 3000 < manyL 8 l ∨ 8 < deepL 8 l then 2 else ckL [] false l
mutual
def ntxN : Nd → List UInt8
 | .mk _ _ x k => x ++ ntxL k
def ntxL : List Nd → List UInt8
 | [] => []
 | d :: l => ntxN d ++ ntxL l
end
theorem pops_zero (s : St) : pops 0 s = s := rfl
theorem pops_succ (j : Nat) (s : St) : pops (j + 1) s = pops j (pop s) := rfl
theorem put_len (s : St) (d : Nd) : (put s d).2.length = s.2.length := by
 unfold put; split <;> simp
theorem put_nms (s : St) (d : Nd) : nms (put s d) = nms s := by
 unfold put nms; split <;> simp
theorem pop_nms (s : St) : nms (pop s) = (nms s).drop 1 := by
 unfold pop; split
 · rfl
 · rw [put_nms]; simp [nms]
theorem pops_nms (j : Nat) : ∀ s : St, nms (pops j s) = (nms s).drop j := by
 induction j with
 | zero => intro s; rfl
 | succ j ih => intro s; rw [pops_succ, ih, pop_nms, List.drop_drop, Nat.add_comm]
theorem nms_len (s : St) : (nms s).length = s.2.length := by simp [nms]
theorem pops_add (i j : Nat) : ∀ s : St, pops (i + j) s = pops j (pops i s) := by
 induction i with
 | zero => intro s; simp [pops_zero]
 | succ i ih => intro s; rw [Nat.succ_add, pops_succ, pops_succ, ih]
theorem pops_len (j : Nat) (s : St) : (pops j s).2.length = s.2.length - j := by
 rw [← nms_len, pops_nms, List.length_drop, nms_len]
theorem fin_pops (j : Nat) (s : St) (h : j ≤ s.2.length) : fin (pops j s) = fin s := by
 unfold fin; rw [pops_len, ← pops_add, Nat.add_sub_cancel' h]
def setK (s : St) (o : List Nd) : St := match s with
 | (_, []) => (o, [])
 | (r, (n, a, _) :: f) => (r, (n, a, o) :: f)
theorem put_setK (s : St) (o : List Nd) (d : Nd) : put (setK s o) d = setK s (pt o d) := by
 unfold setK; split <;> rfl
theorem setK_nms (s : St) (o : List Nd) : nms (setK s o) = nms s := by
 unfold setK nms; split <;> simp
theorem setK_len (s : St) (o : List Nd) : (setK s o).2.length = s.2.length := by rw [← nms_len, setK_nms, nms_len]
theorem pt_el (o : List Nd) (d : Nd) (h : d.n ≠ []) : pt o d = o ++ [d] := by
 unfold pt; split
 · rw [if_neg h]
 · rfl
theorem abv_lt (nm : Nm) (stop : Nm → Bool) : ∀ (r : List Nm) (i : Nat), abv nm stop r = some i → i < r.length := by
 intro r; induction r with
 | nil => intro i h; simp [abv] at h
 | cons x r ih =>
   intro i h; unfold abv at h; split at h
   · cases h; simp
   · split at h
     · cases h
     · have := ih i h; simp; omega
theorem abv_drop (nm : Nm) (stop : Nm → Bool) : ∀ (r : List Nm) (i : Nat), abv nm stop r = some i → ∃ p, r = p ++ nm :: r.drop (r.length - i) := by
 intro r; induction r with
 | nil => intro i h; simp [abv] at h
 | cons x r ih =>
   intro i h; have hlt := abv_lt nm stop _ i h; unfold abv at h; split at h
   · rename_i e; subst e; cases h; refine ⟨[], ?_⟩; rw [List.length_cons, Nat.add_sub_cancel_left]; rfl
   · split at h
     · cases h
     · obtain ⟨p, hp⟩ := ih i h; have h2 := abv_lt nm stop _ i h; refine ⟨x :: p, ?_⟩; rw [List.length_cons, show r.length + 1 - i = (r.length - i) + 1 by omega, List.drop_succ_cons, List.cons_append, ← hp]
theorem cls1_le (r : List Nm) (nm : Nm) : cls1 r nm ≤ r.length := by
 unfold cls1; split
 · cases e : abv sP wallN r with
   | none => simp
   | some i => have := abv_lt _ _ _ _ e; simp; omega
 · exact Nat.le_refl _
theorem cls_le1 (r : List Nm) (nm : Nm) : cls r nm ≤ cls1 r nm := by
 unfold cls; split
 · cases e : abv sLi ulolN (r.drop (r.length - cls1 r nm)) with
   | none => simp
   | some i => have := abv_lt _ _ _ _ e; have := cls1_le r nm; simp at *; omega
 · exact Nat.le_refl _
theorem cls_le (r : List Nm) (nm : Nm) : cls r nm ≤ r.length := Nat.le_trans (cls_le1 r nm) (cls1_le r nm)
def Good : List Nm → Prop
 | [] => True
 | n :: r => cls r n = r.length ∧ Good r
theorem Good.drop {r : List Nm} (h : Good r) (j : Nat) : Good (r.drop j) := by
 induction r generalizing j with
 | nil => simp [Good]
 | cons x r ih =>
   cases j with
   | zero => exact h
   | succ j => exact ih h.2 j
theorem Good.mid {p r : List Nm} {n : Nm} (h : Good (p ++ n :: r)) : cls r n = r.length := by
 have := h.drop p.length; rw [List.drop_left] at this; exact this.1
theorem cls_p_none {r : List Nm} (h : cls r sP = r.length) : abv sP wallN r = none := by
 cases e : abv sP wallN r with
 | none => rfl
 | some i =>
   have h1 := abv_lt _ _ _ _ e; have h2 := cls_le1 r sP; have h3 : cls1 r sP = i := by unfold cls1; rw [e]; simp [blkN]
   omega
theorem cls1_idem (r : List Nm) (nm : Nm) (hg : Good r) : cls1 (r.drop (r.length - cls1 r nm)) nm = cls1 r nm := by
 have hle := cls1_le r nm; by_cases hb : blkN nm = true
 · cases e : abv sP wallN r with
   | none =>
     have h1 : cls1 r nm = r.length := by unfold cls1; rw [if_pos hb, e]; rfl
     rw [h1, Nat.sub_self, List.drop_zero, h1]
   | some i =>
     have h1 : cls1 r nm = i := by unfold cls1; rw [if_pos hb, e]; rfl
     obtain ⟨p, hp⟩ := abv_drop _ _ _ _ e; have hi := abv_lt _ _ _ _ e; rw [h1] at *; rw [hp] at hg; have hn := cls_p_none hg.mid; unfold cls1; rw [if_pos hb, hn]; simp; omega
 · have h1 : cls1 r nm = r.length := by unfold cls1; rw [if_neg hb]
   rw [h1, Nat.sub_self, List.drop_zero, h1]
theorem cls_idem (r : List Nm) (nm : Nm) (hg : Good r) : cls (r.drop (r.length - cls r nm)) nm = cls r nm := by
 have hle := cls_le r nm; have hle1 := cls1_le r nm; have hid := cls1_idem r nm hg; by_cases hl : nm = sLi
 · cases e : abv sLi ulolN (r.drop (r.length - cls1 r nm)) with
   | none =>
     have h1 : cls r nm = cls1 r nm := by unfold cls; rw [if_pos hl, e]; rfl
     rw [h1]; conv => lhs; unfold cls
     rw [if_pos hl, hid]; have hlen : (r.drop (r.length - cls1 r nm)).length = cls1 r nm := by simp; omega
     rw [hlen, Nat.sub_self, List.drop_zero, e]; rfl
   | some i =>
     have h1 : cls r nm = i := by unfold cls; rw [if_pos hl, e]; rfl
     have hi := abv_lt _ _ _ _ e; have hlen : (r.drop (r.length - cls1 r nm)).length = cls1 r nm := by simp; omega
     rw [hlen] at hi; obtain ⟨p, hp⟩ := abv_drop _ _ _ _ e; rw [hlen, List.drop_drop, show r.length - cls1 r nm + (cls1 r nm - i) = r.length - i by omega] at hp; have hg1 := hg.drop (r.length - cls1 r nm); rw [hp] at hg1; have := hg1.mid; rw [h1, hl, this]; simp; omega
 · have h1 : cls r nm = cls1 r nm := by unfold cls; rw [if_neg hl]
   rw [h1]; conv => lhs; unfold cls
   rw [if_neg hl, hid]
def bld : Nat → List Nm → List Tok → List Nd → List Nd × List Tok × Nat
 | 0, r, l, out => (out, l, r.length)
 | _ + 1, r, [], out => (out, [], r.length)
 | k + 1, r, t :: l, out =>
   if t.1 = 1 then bld k r l (pt out (.mk [] [] t.2.2.2 []))
   else if t.1 = 3 then (match abv t.2.1 (fun _ => false) r with | some i => (out, l, i) | none => bld k r l out)
   else if cls r t.2.1 < r.length then (out, t :: l, cls r t.2.1)
   else if r.length = 8 then bld k r l out
   else if emptyN t.2.1 = true then bld k r l (out ++ [.mk t.2.1 t.2.2.1 [] []])
   else if (bld k (t.2.1 :: r) l []).2.2 < r.length then (out ++ [.mk t.2.1 t.2.2.1 [] (bld k (t.2.1 :: r) l []).1], (bld k (t.2.1 :: r) l []).2.1, (bld k (t.2.1 :: r) l []).2.2)
   else bld k r (bld k (t.2.1 :: r) l []).2.1 (out ++ [.mk t.2.1 t.2.2.1 [] (bld k (t.2.1 :: r) l []).1])
def TOk (t : Tok) : Prop := (t.1 = 1 ∨ t.1 = 2 ∨ t.1 = 3) ∧ (t.1 = 2 → t.2.1 ≠ [])
theorem bld_run (k : Nat) : ∀ (r : List Nm) (l : List Tok) (out : List Nd), l.length ≤ k → Good r → (∀ t ∈ l, TOk t) →
 (bld k r l out).2.1.length ≤ l.length ∧ (bld k r l out).2.2 ≤ r.length ∧ ((bld k r l out).2.2 = r.length → (bld k r l out).2.1 = []) ∧ (∀ t ∈ (bld k r l out).2.1, TOk t) ∧
 ∀ s : St, nms s = r → fin (l.foldl stp (setK s out)) = fin ((bld k r l out).2.1.foldl stp (pops (r.length - (bld k r l out).2.2) (setK s (bld k r l out).1))) := by
 induction k with
 | zero =>
   intro r l out hl hg ht; obtain rfl := List.eq_nil_of_length_eq_zero (Nat.le_zero.1 hl); simp [bld, pops_zero]
 | succ k ih =>
   intro r l out hl hg ht; cases l with
   | nil => simp [bld, pops_zero]
   | cons t l =>
     simp only [List.length_cons, Nat.add_le_add_iff_right] at hl; obtain ⟨hk, hn⟩ := ht t (by simp); have ht' : ∀ u ∈ l, TOk u := fun u hu => ht u (by simp [hu])
     unfold bld; by_cases h1 : t.1 = 1
     · rw [if_pos h1]; obtain ⟨a, b, c, d, e⟩ := ih r l (pt out (.mk [] [] t.2.2.2 [])) hl hg ht'; refine ⟨by simp; omega, b, c, d, fun s hs => ?_⟩; rw [← e s hs, List.foldl_cons]; congr 2; unfold stp; rw [if_pos h1, put_setK]
     rw [if_neg h1]; by_cases h3 : t.1 = 3
     · rw [if_pos h3]; cases e3 : abv t.2.1 (fun _ => false) r with
       | some i =>
         have hi := abv_lt _ _ _ _ e3; simp only []; refine ⟨by simp, by omega, fun h => by omega, ht', fun s hs => ?_⟩; rw [List.foldl_cons]; congr 2; unfold stp; rw [if_neg h1, if_neg (by omega), if_pos h3, setK_nms, hs, e3]; simp only [setK_len]; rw [← nms_len, hs]
       | none =>
         simp only []; obtain ⟨a, b, c, d, e⟩ := ih r l out hl hg ht'; refine ⟨by simp; omega, b, c, d, fun s hs => ?_⟩; rw [← e s hs, List.foldl_cons]; congr 2; unfold stp; rw [if_neg h1, if_neg (by omega), if_pos h3, setK_nms, hs, e3]
     rw [if_neg h3]; have h2 : t.1 = 2 := by omega
     by_cases hc : cls r t.2.1 < r.length
     · rw [if_pos hc]; refine ⟨by simp, by simp; omega, fun h => by simp at h; omega, ht, fun s hs => ?_⟩; simp only [List.foldl_cons]; congr 2; have hsl : s.2.length = r.length := by rw [← nms_len, hs]
       unfold stp; rw [if_neg h1, if_pos h2, if_neg h1, if_pos h2]; have hid := cls_idem r t.2.1 hg; have e1 : nms (pops (r.length - cls r t.2.1) (setK s out)) = r.drop (r.length - cls r t.2.1) := by rw [pops_nms, setK_nms, hs]
       have e2 : (pops (r.length - cls r t.2.1) (setK s out)).2.length = cls r t.2.1 := by rw [pops_len, setK_len, hsl]; omega
       rw [e1, e2, hid, Nat.sub_self, pops_zero, setK_nms, hs, setK_len, hsl]
     rw [if_neg hc]; have hce : cls r t.2.1 = r.length := by have := cls_le r t.2.1; omega
     have hst : ∀ s : St, nms s = r → stp (setK s out) t = opn (setK s out) t.2.1 t.2.2.1 := by
      intro s hs; unfold stp; rw [if_neg h1, if_pos h2, setK_nms, hs, hce, setK_len, ← nms_len, hs, Nat.sub_self, pops_zero]
     by_cases h8 : r.length = 8
     · rw [if_pos h8]; obtain ⟨a, b, c, d, e⟩ := ih r l out hl hg ht'; refine ⟨by simp; omega, b, c, d, fun s hs => ?_⟩; rw [← e s hs, List.foldl_cons, hst s hs]; congr 2; unfold opn; rw [if_pos (by rw [setK_len, ← nms_len, hs, h8])]
     rw [if_neg h8]; have ho8 : ∀ s : St, nms s = r → ¬ (setK s out).2.length = 8 := by intro s hs; rw [setK_len, ← nms_len, hs]; exact h8
     by_cases hem : emptyN t.2.1 = true
     · rw [if_pos hem]; obtain ⟨a, b, c, d, e⟩ := ih r l (out ++ [.mk t.2.1 t.2.2.1 [] []]) hl hg ht'; refine ⟨by simp; omega, b, c, d, fun s hs => ?_⟩; rw [← e s hs, List.foldl_cons, hst s hs]; congr 2; unfold opn; rw [if_neg (ho8 s hs), if_pos hem, put_setK, pt_el _ _ (by exact hn h2)]
     rw [if_neg hem]; obtain ⟨a, b, c, d, e⟩ := ih (t.2.1 :: r) l [] hl ⟨hce, hg⟩ ht'; obtain ⟨q, hq⟩ : ∃ q, q = bld k (t.2.1 :: r) l [] := ⟨_, rfl⟩; rw [← hq] at a b c d e ⊢; have hop : ∀ s : St, nms s = r → opn (setK s out) t.2.1 t.2.2.1 = setK ((setK s out).1, (t.2.1, t.2.2.1, []) :: (setK s out).2) [] := by
      intro s hs; unfold opn; rw [if_neg (ho8 s hs), if_neg hem]; rfl
     have hnm : ∀ s : St, nms s = r → nms ((setK s out).1, (t.2.1, t.2.2.1, []) :: (setK s out).2) = t.2.1 :: r := by
      intro s hs; have := setK_nms s out; rw [hs] at this; simp only [nms, List.map_cons] at this ⊢; rw [this]
     have hpop : ∀ s : St, nms s = r → ∀ (v : List Nd), pop (setK ((setK s out).1, (t.2.1, t.2.2.1, []) :: (setK s out).2) v) = setK s (out ++ [.mk t.2.1 t.2.2.1 [] v]) := by
      intro s hs v; show put ((setK s out).1, (setK s out).2) _ = _; rw [show ((setK s out).1, (setK s out).2) = setK s out from rfl, put_setK, pt_el _ _ (by exact hn h2)]
     simp only [List.length_cons] at b c e; by_cases hlt : q.2.2 < r.length
     · rw [if_pos hlt]; refine ⟨by simp; omega, by simp; omega, fun h => by simp at h; omega, d, fun s hs => ?_⟩; rw [List.foldl_cons, hst s hs, hop s hs, e _ (hnm s hs)]; congr 2; rw [show r.length + 1 - q.2.2 = (r.length - q.2.2) + 1 by omega, pops_succ, hpop s hs]
     · rw [if_neg hlt]; obtain ⟨a', b', c', d', e'⟩ := ih r q.2.1 (out ++ [.mk t.2.1 t.2.2.1 [] q.1]) (by omega) hg d; refine ⟨by simp; omega, b', c', d', fun s hs => ?_⟩; rw [← e' s hs, List.foldl_cons, hst s hs, hop s hs, e _ (hnm s hs)]; by_cases hfull : q.2.2 = r.length + 1
       · have := c hfull; rw [this, hfull, Nat.sub_self, pops_zero]; simp only [List.foldl_nil]; rw [← hpop s hs, ← fin_pops 1 _ (by simp [setK])]; rfl
       · have : q.2.2 = r.length := by omega
         congr 2; rw [this, show r.length + 1 - r.length = 0 + 1 by omega, pops_succ, pops_zero, hpop s hs]
theorem ofM_bld (l : List Tok) (ht : ∀ t ∈ l, TOk t) (k : Nat) (hk : l.length ≤ k) : (bld k [] l []).1 = ofM l := by
 obtain ⟨a, b, c, d, e⟩ := bld_run k [] l [] hk trivial ht; have h0 : (bld k [] l []).2.2 = 0 := by simpa using b
 have := e ([], []) rfl; rw [c (by rw [h0]; rfl), h0] at this; unfold ofM; rw [show (([], []) : St) = setK ([], []) [] from rfl, this]; rfl
def Grew (w w' : World) (v v' : Value) : Prop :=
 (v'.ownBlock = v.ownBlock ∧ w.grownBy w' v.ownBlock) ∨ (w.grownBy w' none ∧ ∃ k, v'.ownBlock = some k ∧ w.heap.size ≤ k)
theorem run_append_gr {P : Program} (w : World) (base : Nat) (t ty e : TypeId) (i : TypeInfo) (z : Value) (size bytes : Nat) (ht : P.underlying t = some (.slice e)) (hi : P.info? e = some i) (hz : i.zero = some z)
 (hsize : i.size = size) (hby : i.bytes = bytes) (hzs : z.cells.size = size) (hsz : 0 < size)
 (v : Value) (n : Nat) (xs : List Value) (hown : w.ownsRow base e size v n xs)
 (a : Addr) (m c : Nat) (news : List Value) (hl : news.length = m * size) (hnews : ∀ j u, news[j]? = some u → w.cell? (a.add j) = some u) (h1 : ∀ u ∈ news, u.oneCell' = true)
 (hm : 0 < m) (h63 : n + m ≤ maxLen) (hbytes : (n + m) * bytes ≤ 140737488355328) (hbase : base ≤ w.heap.size) :
 ∃ v' w', (Builtin.append_ #[t, t] ty #[v, .slice (some a) m c]).run P w = .ok v' w' ∧ w'.ownsRow base e size v' (n + m) (xs ++ news) ∧ Grew w w' v v' := by
 have up : ∀ {w' : World} {v' : Value} {xs : List Value} {n : Nat}, 0 < n → w'.ownsRow w.heap.size e size v' n xs → w'.ownsRow base e size v' n xs ∧ ∃ k, v'.ownBlock = some k ∧ w.heap.size ≤ k := by
  intro w' v' xs n hn h; rcases h.2 with ⟨_, h0⟩ | ⟨g, cap, cur, rfl, hg, rest⟩
  · omega
  · exact ⟨⟨h.1, .inr ⟨g, cap, cur, rfl, Nat.le_trans hbase hg, rest⟩⟩, g, rfl, hg⟩
 rcases hown.2 with ⟨rfl, rfl⟩ | ⟨g, cap, cur, rfl, hbg, hg, hnc, hcm, hcs, htake⟩
 · have hx : xs = [] := List.eq_nil_of_length_eq_zero (by simpa using hown.1); subst hx; obtain ⟨v', w', hr, h2, h3, -⟩ := run_append_own (P := P) w w.heap.size t ty e i z size bytes ht hi hz hsize hby hzs hsz (.slice none 0 0) 0 [] (World.ownsRow_nil _ _ _ _) a m c news hl hnews h1 h63 hbytes (Nat.le_refl _); obtain ⟨h4, h5⟩ := up (by omega) h2; exact ⟨v', w', hr, h4, .inr ⟨h3, h5⟩⟩
 · by_cases hroom : n + m ≤ cap
   · obtain ⟨w', hr, h2, h3⟩ := run_append_fits (P := P) w base t ty e i size ht hi hsize g n cap xs hown a m c news hl hnews h1 hroom; exact ⟨_, w', hr, h2, .inl ⟨rfl, h3⟩⟩
   · obtain ⟨v', w', hr, h2, h3⟩ := run_append_arg_grows (P := P) w t ty e i z size bytes ht hi hz hsize hby hzs hsz ⟨g, 0, none⟩ n cap xs hown.1 (World.ownsRow.cells hown rfl) a m c news hl hnews (by omega) h63 hbytes; obtain ⟨h4, h5⟩ := up (by omega) h2; exact ⟨v', w', hr, h4, .inr ⟨h3, h5⟩⟩
theorem wpList_append_gr {P : Program} (w : World) {ops : Array Oper} {rest : List Oper} {o : Oper} {a : Act} {Q : Exit → Act → World → Prop} (hgd : o.guard = none) (s x : Operand) (t : TypeId)
 (ho : o.op = .call { callee := .builtin .append, args := #[s, x], argTypes := #[t, t] })
 (base : Nat) (e : TypeId) (i : TypeInfo) (z : Value) (size bytes : Nat) (ht : P.underlying t = some (.slice e)) (hi : P.info? e = some i) (hz : i.zero = some z)
 (hsize : i.size = size) (hby : i.bytes = bytes) (hzs : z.cells.size = size) (hsz : 0 < size)
 (v : Value) (n : Nat) (xs : List Value) (hs : a.eval s = v) (hown : w.ownsRow base e size v n xs)
 (ad : Addr) (m c : Nat) (news : List Value) (hx : a.eval x = .slice (some ad) m c) (hl : news.length = m * size) (hnews : ∀ j u, news[j]? = some u → w.cell? (ad.add j) = some u) (h1 : ∀ u ∈ news, u.oneCell' = true)
 (hm : 0 < m) (h63 : n + m ≤ maxLen) (hbytes : (n + m) * bytes ≤ 140737488355328) (hbase : base ≤ w.heap.size)
 (h : ∀ v' w', w'.ownsRow base e size v' (n + m) (xs ++ news) → Grew w w' v v' → wpList P ops Q rest (a.put o.dst v') w') : wpList P ops Q (o :: rest) a w := by
 refine wpList_plain hgd fun K hK => ?_
 obtain ⟨v', w', hr, h2, h3⟩ := run_append_gr (P := P) w base t o.type e i z size bytes ht hi hz hsize hby hzs hsz v n xs hown ad m c news hl hnews h1 hm h63 hbytes hbase; unfold Oper.wp execOp; simp only [ho, resolve, invoke, builtin, Sem.run_bind, Sem.run_pure, Result.andThen_ok, List.map_toArray, List.map_cons, List.map_nil, hs, hx, hr]; exact hK _ _ (h v' w' h2 h3)
theorem step_append_gr {P : Program} {ops : Array Oper} {o : Oper} {a : Act} {w : World} {K : Act → World → Prop} {Q : Exit → Act → World → Prop} {E : Prop}
 (hgd : o.guard = none) (s x : Operand) (t : TypeId) (hop : o.op = Op.call { callee := Callee.builtin Builtin.append, args := #[s, x], argTypes := #[t, t] })
 (base : Nat) (e : TypeId) (i : TypeInfo) (z : Value) (size bytes : Nat) (ht : P.underlying t = some (.slice e)) (hi : P.info? e = some i) (hz : i.zero = some z)
 (hsize : i.size = size) (hby : i.bytes = bytes) (hzs : z.cells.size = size) (hsz : 0 < size)
 (v : Value) (n : Nat) (xs : List Value) (hs : a.eval s = v) (hown : w.ownsRow base e size v n xs)
 (ad : Addr) (m c : Nat) (news : List Value) (hx : a.eval x = .slice (some ad) m c) (hl : news.length = m * size) (hnews : ∀ j u, news[j]? = some u → w.cell? (ad.add j) = some u) (h1 : ∀ u ∈ news, u.oneCell' = true)
 (hm : 0 < m) (h63 : n + m ≤ maxLen) (hbytes : (n + m) * bytes ≤ 140737488355328) (hbase : base ≤ w.heap.size)
 (hK : ∀ v' w', w'.ownsRow base e size v' (n + m) (xs ++ news) → Grew w w' v v' → K (a.put o.dst v') w') :
 if Region.wanted o (yielded ops a.tmps) = true then Oper.wp P o a w K Q else E := by
 have hw : Region.wanted o (yielded ops a.tmps) = true := by simp [Region.wanted, hgd]
 rw [if_pos hw]; obtain ⟨v', w', hrun, h2, h3⟩ := run_append_gr (P := P) w base t o.type e i z size bytes ht hi hz hsize hby hzs hsz v n xs hown ad m c news hl hnews h1 hm h63 hbytes hbase; unfold Oper.wp; simp [execOp, hop, resolve, invoke, builtin, hs, hx, hrun, Result.andThen]; exact hK v' w' h2 h3
theorem cf_v2 : ∀ (args : Array Value) (W : World), Sem.run Tryz.prog (callFunc 221 args) W = .ok (.enter 221 args) W := by
 intro args W; simp [callFunc, go_sem, Tryz.func221, Tryz.f221]
theorem clo_v2 (c Q : UInt8) (q : Nat) (w : World) (hq : w.cell? ⟨q, 0, none⟩ = some (.int .u8 (Q.toNat : Int))) :
 Calls Tryz.prog 221 #[.int .u8 (c.toNat : Int), .pointer (some ⟨q, 0, none⟩)] w fun e w' => e = .returned (.bool (c != Q)) ∧ w = w' := by
 go_enter Tryz.func221, Tryz.ntmps221; go_wp2; go_ret; refine ⟨ret_bool ?_, rfl⟩; rw [Bool.eq_iff_iff]; simp only [bne_iff_ne, ne_eq]; constructor
 · intro h e; exact h (by rw [e])
 · intro h e; exact h (UInt8.toNat_inj.1 (by omega))
theorem do_v2 (Q : UInt8) (q : Nat) : Do 221 #[.pointer (some ⟨q, 0, none⟩)] (· != Q) (fun W => W.cell? ⟨q, 0, none⟩ = some (.int .u8 (Q.toNat : Int))) :=
 ⟨cf_v2, fun c W h => (clo_v2 c Q q W h).mono fun _ _ ⟨h, hw⟩ => ⟨h, hw ▸ Qt.refl _⟩, fun W W' h hq => by obtain ⟨n, rfl⟩ := hq; exact h⟩
theorem hd_isq (q : UInt8) (r : List UInt8) : (hd isq (q :: r) = true) ↔ (q = 34 ∨ q = 39) := by
 have h1 : q.toNat = 34 ↔ q = 34 := ⟨fun h => UInt8.toNat_inj.1 h, fun h => by rw [h]; rfl⟩; have h2 : q.toNat = 39 ↔ q = 39 := ⟨fun h => UInt8.toNat_inj.1 h, fun h => by rw [h]; rfl⟩; simp [hd, isq, h1, h2]
theorem alloc_gb (w : World) (o : Obj) (b : Option Nat) : w.grownBy (w.alloc o) b := World.grownBy_alloc w o b
theorem value_plain (b : Nat) (s t x : List UInt8) (v : Value) (w : World) (hR : Rr w b s t x v) (hs : s.length ≤ 1099511627776) (hq : hd isq (t.dropWhile wht) = false) :
 Calls Tryz.prog 202 #[.pointer (some ⟨b, 0, none⟩)] w fun e w' => e = .returned (.string ⟨((t.dropWhile wht).takeWhile vch).toArray⟩) ∧ Rr w' b s ((t.dropWhile wht).dropWhile vch) x v ∧ w.grownBy w' (some b) := by
 obtain ⟨t1, ht1⟩ : ∃ t1, t1 = t.dropWhile wht := ⟨_, rfl⟩; have P1 := Lib.hid (pass_r _ wht do_white b s t x v w hR hs); have HH := Lib.hid (fun W h => here_r _ isq do_v1 b s t1 x v W h hs); have P2 := Lib.hid (fun W h => pass_r _ vch do_v3 b s t1 x v W h hs); rw [← ht1] at hq P1 ⊢; rw [hq] at HH; clear ht1 hq hR; go_enter Tryz.func202, Tryz.ntmps202; go_wp2_with (first | (go_at_call 151; (with_reducible refine P1.out.mono ?_); clear P1; rintro e w1 ⟨rfl, hR1, hg1⟩) | (go_at_call 179; (with_reducible refine (HH.out _ hR1).mono ?_); rintro e w2 ⟨rfl, hq2⟩; have hR2 := hR1.of_bl hq2.bl; have hg2 := gb_trans hg1 (gb_qt (b := some b) hq2)) | (go_at_call 151; (with_reducible refine (P2.out _ hR2).mono ?_); rintro e w3 ⟨rfl, hR3, hg3⟩)); go_ret; exact ⟨rfl, hR3, gb_trans hg2 hg3⟩
theorem value_quoted (b : Nat) (s t r u x : List UInt8) (q z : UInt8) (v : Value) (w : World) (hR : Rr w b s t x v) (hs : s.length ≤ 1099511627776) (ht : t.dropWhile wht = q :: r) (hq : hd isq (q :: r) = true) (hu : r.dropWhile (· != q) = z :: u) :
 Calls Tryz.prog 202 #[.pointer (some ⟨b, 0, none⟩)] w fun e w' => e = .returned (.string ⟨(r.takeWhile (· != q)).toArray⟩) ∧ Rr w' b s u x v ∧ w.grownBy w' (some b) := by
 have P1 := Lib.hid (pass_r _ wht do_white b s t x v w hR hs); have HH := Lib.hid (fun W h => here_r _ isq do_v1 b s (q :: r) x v W h hs); have N1 := Lib.hid (fun W h => need_r b s q r x v W h hs); have P2 := Lib.hid (fun (n : Nat) W h1 (hne : n ≠ b) h => pass_r0 _ _ _ _ (do_v2 q n) b s r x v W h1 (fun W u h => by rw [World.cell?_setCell_other _ _ _ _ (by simp [])]; exact h) h hs); have N2 := Lib.hid (fun W h => need_r b s z u x v W h hs); rw [ht] at P1; rw [hq] at HH; rw [hu] at P2; obtain ⟨a, ha⟩ : ∃ a, a = r.takeWhile (· != q) := ⟨_, rfl⟩; rw [← ha] at P2 ⊢; clear ht hq hR hu ha; go_enter Tryz.func202, Tryz.ntmps202; go_wp2_with (first | (go_at_call 151; (with_reducible refine P1.out.mono ?_); clear P1; rintro e w1 ⟨rfl, hR1, hg1⟩) | (go_at_call 179; (with_reducible refine (HH.out _ hR1).mono ?_); rintro e w2 ⟨rfl, hq2⟩; have hR2 := hR1.of_bl hq2.bl; have hg2 := gb_trans hg1 (gb_qt (b := some b) hq2)) | (go_at_call 199; (with_reducible refine (N1.out _ hR2).mono ?_); clear N1; rintro e w3 ⟨rfl, hR3, hg3⟩; have hg3' := gb_trans hg2 hg3; have hP := Lib.hid (P2.out w3.heap.size (w3.alloc (.cells #[.int .u8 (q.toNat : Int)] 5)) (by simp) (Nat.ne_of_gt hR3.rk.lt) (hR3.of_bl ((Bl.refl _).alloc _)))) | (go_at_call 151; (with_reducible refine hP.out.mono ?_); rintro e w4 ⟨rfl, hR4, hg4⟩; have hg4' := gb_trans (gb_trans hg3' (alloc_gb w3 _ (some b))) hg4) | (go_at_call 199; (with_reducible refine (N2.out _ hR4).mono ?_); rintro e w5 ⟨rfl, hR5, hg5⟩)); go_ret; exact ⟨rfl, hR5, gb_trans hg4' hg5⟩
theorem value_open (b : Nat) (s t r x : List UInt8) (q : UInt8) (v : Value) (w : World) (hR : Rr w b s t x v) (hs : s.length ≤ 1099511627776) (ht : t.dropWhile wht = q :: r) (hq : hd isq (q :: r) = true) (hu : r.dropWhile (· != q) = []) :
 Calls Tryz.prog 202 #[.pointer (some ⟨b, 0, none⟩)] w fun e w' => e = .panicked OPN ∧ (∃ t', Rr w' b s t' x v) ∧ w.grownBy w' (some b) := by
 have P1 := Lib.hid (pass_r _ wht do_white b s t x v w hR hs); have HH := Lib.hid (fun W h => here_r _ isq do_v1 b s (q :: r) x v W h hs); have N1 := Lib.hid (fun W h => need_r b s q r x v W h hs); have P2 := Lib.hid (fun (n : Nat) W h1 (hne : n ≠ b) h => pass_r0 _ _ _ _ (do_v2 q n) b s r x v W h1 (fun W u h => by rw [World.cell?_setCell_other _ _ _ _ (by simp [])]; exact h) h hs); have N2 := Lib.hid (fun W h => need_end b s x v W h); rw [ht] at P1; rw [hq] at HH; rw [hu] at P2; obtain ⟨a, ha⟩ : ∃ a, a = r.takeWhile (· != q) := ⟨_, rfl⟩; rw [← ha] at P2; clear ht hq hR hu ha; go_enter Tryz.func202, Tryz.ntmps202; go_wp2_with (first | (go_at_call 151; (with_reducible refine P1.out.mono ?_); clear P1; rintro e w1 ⟨rfl, hR1, hg1⟩) | (go_at_call 179; (with_reducible refine (HH.out _ hR1).mono ?_); rintro e w2 ⟨rfl, hq2⟩; have hR2 := hR1.of_bl hq2.bl; have hg2 := gb_trans hg1 (gb_qt (b := some b) hq2)) | (go_at_call 199; (with_reducible refine (N1.out _ hR2).mono ?_); clear N1; rintro e w3 ⟨rfl, hR3, hg3⟩; have hg3' := gb_trans hg2 hg3; have hP := Lib.hid (P2.out w3.heap.size (w3.alloc (.cells #[.int .u8 (q.toNat : Int)] 5)) (by simp) (Nat.ne_of_gt hR3.rk.lt) (hR3.of_bl ((Bl.refl _).alloc _)))) | (go_at_call 151; (with_reducible refine hP.out.mono ?_); rintro e w4 ⟨rfl, hR4, hg4⟩; have hg4' := gb_trans (gb_trans hg3' (alloc_gb w3 _ (some b))) hg4) | (go_at_call 199; (with_reducible refine (N2.out _ hR4).mono ?_); rintro e w5 ⟨rfl, hq5⟩)); exact ⟨rfl, rfl, ⟨_, hR4.of_bl hq5.bl⟩, gb_trans hg4' (gb_qt hq5)⟩
theorem value_yes (b : Nat) (s t a u x : List UInt8) (v : Value) (w : World) (hR : Rr w b s t x v) (hs : s.length ≤ 1099511627776) (hv : valOf t = some (a, u)) :
 Calls Tryz.prog 202 #[.pointer (some ⟨b, 0, none⟩)] w fun e w' => e = .returned (.string ⟨a.toArray⟩) ∧ Rr w' b s u x v ∧ w.grownBy w' (some b) := by
 have hp := value_plain b s t x v w hR hs; unfold valOf at hv; split at hv
 · rename_i e; simp only [Option.some.injEq, Prod.mk.injEq] at hv; obtain ⟨rfl, rfl⟩ := hv; rw [e] at hp; exact hp rfl
 · rename_i q r e; split at hv
   · rename_i hq; have hq' := (hd_isq q r).2 hq; split at hv
     · cases hv
     · rename_i z u' e2; simp only [Option.some.injEq, Prod.mk.injEq] at hv; obtain ⟨rfl, rfl⟩ := hv; exact value_quoted b s t r u' x q z v w hR hs e hq' e2
   · rename_i hq; have hq' : hd isq (q :: r) = false := by
      rw [← hd_isq q r] at hq; simpa using hq
     simp only [Option.some.injEq, Prod.mk.injEq] at hv; obtain ⟨rfl, rfl⟩ := hv; rw [e] at hp; exact hp hq'
theorem value_no (b : Nat) (s t x : List UInt8) (v : Value) (w : World) (hR : Rr w b s t x v) (hs : s.length ≤ 1099511627776) (hv : valOf t = none) :
 Calls Tryz.prog 202 #[.pointer (some ⟨b, 0, none⟩)] w fun e w' => e = .panicked OPN ∧ (∃ t', Rr w' b s t' x v) ∧ w.grownBy w' (some b) := by
 unfold valOf at hv; split at hv
 · cases hv
 · rename_i q r e; split at hv
   · rename_i hq; have hq' := (hd_isq q r).2 hq; split at hv
     · rename_i e2; exact value_open b s t r x q v w hR hs e hq' e2
     · cases hv
   · cases hv
def atV (a : Atr) : Value := .agg #[.string ⟨a.1.toArray⟩, .string ⟨a.2.toArray⟩]
def AtS (w : World) (v : Value) (l : List Atr) : Prop :=
 ∃ ao cap, v = .slice ao l.length cap ∧ ∀ i (h : i < l.length), ∃ g o, ao = some ⟨g, o, none⟩ ∧ g < w.heap.size ∧ w.cell? ⟨g, o + i * 2, none⟩ = some (.string ⟨l[i].1.toArray⟩) ∧ w.cell? ⟨g, o + i * 2 + 1, none⟩ = some (.string ⟨l[i].2.toArray⟩)
theorem AtS.of_bl {w w' : World} {v : Value} {l : List Atr} (h : AtS w v l) (hb : Bl w w') : AtS w' v l := by
 obtain ⟨ao, cap, rfl, h⟩ := h; refine ⟨ao, cap, rfl, fun i hi => ?_⟩; obtain ⟨g, o, h1, h2, h3, h4⟩ := h i hi; exact ⟨g, o, h1, Nat.lt_of_lt_of_le h2 (Below.size hb), (hb.cells.1 g _ h2).trans h3, (hb.cells.1 g _ h2).trans h4⟩
structure DoA (N : Nat) (cap : Array Value) (p : Atr → Bool) (I : World → Prop) : Prop where
 cf : ∀ (args : Array Value) (W : World), Sem.run Tryz.prog (callFunc N args) W = .ok (.enter N args) W
 go : ∀ (a : Atr) W, I W → Calls Tryz.prog N (#[atV a] ++ cap) W fun e w' => e = .returned (.bool (p a)) ∧ Bl W w'
 bl : ∀ W W', I W → Bl W W' → I W'
def ixA (p : Atr → Bool) (l : List Atr) : Int := match l.findIdx? p with | some i => i | none => -1
theorem ixA_hit (p : Atr → Bool) (l : List Atr) (k : Nat) (h : k < l.length) (hk : p l[k] = true) (hb : ∀ j (hj : j < l.length), j < k → p l[j] = false) : ixA p l = k := by
 unfold ixA; rw [List.findIdx?_eq_some_iff_getElem.2 ⟨h, hk, fun j hj => by simpa using hb j (by omega) hj⟩]
theorem ixA_miss (p : Atr → Bool) (l : List Atr) (hb : ∀ j (hj : j < l.length), p l[j] = false) : ixA p l = -1 := by
 unfold ixA; rw [List.findIdx?_eq_none_iff.2 (fun x hx => by obtain ⟨j, hj, rfl⟩ := List.mem_iff_getElem.1 hx; exact hb j hj)]
theorem ixA_any (p : Atr → Bool) (l : List Atr) : decide (0 ≤ ixA p l) = l.any p := by
 unfold ixA; cases h : l.findIdx? p with
 | some i =>
   obtain ⟨h1, h2, _⟩ := List.findIdx?_eq_some_iff_getElem.1 h; have h3 : l.any p = true := List.any_eq_true.2 ⟨l[i], List.getElem_mem _, h2⟩; rw [h3]; simp
 | none =>
   have h3 : l.any p = false := by
    rw [List.any_eq_false]; intro x hx; simpa using List.findIdx?_eq_none_iff.1 h x hx
   rw [h3]; simp
theorem indexF_c (N : Nat) (cap : Array Value) (p : Atr → Bool) (I : World → Prop) (hD : DoA N cap p I) (l : List Atr) (v : Value) (hl : l.length ≤ 1099511627776) (w : World) (hI : I w) (hA : AtS w v l) :
 Calls Tryz.prog 163 #[v, .func (.func N) #[] cap] w fun e w' => e = .returned (.int .i64 (ixA p l)) ∧ Bl w w' := by
 obtain ⟨ao, vc, rfl, hA⟩ := hA; have hcf := hD.cf; have HD := Lib.hid hD; clear hD; go_enter Tryz.func163, Tryz.ntmps163; go_wp2; go_loopw [8] (fun i wr => ∃ k : Nat, k ≤ l.length ∧ i = .int .i64 k ∧ Hid (∀ j (hj : j < l.length), j < k → p l[j] = false) ∧ Bl w wr) (fun i _ => l.length - (intOf i).toNat); case atStart => exact ⟨0, Nat.zero_le _, rfl, Lib.hid (fun j _ h => by omega), Bl.refl _⟩
 case round =>
  obtain ⟨k, hk, rfl, HP, hbl⟩ := hrel; by_cases hlt : k < l.length
  · obtain ⟨g, o, rfl, hg, h1, h2⟩ := hA k hlt; have h1' := (hbl.cells.1 g _ hg).trans h1; have h2' := (hbl.cells.1 g _ hg).trans h2; have hI' := HD.out.bl _ _ hI hbl; have HG := Lib.hid (HD.out.go l[k] wr hI'); unfold atV at HG; cases hp : p l[k]
    · have HF := Lib.hid hp; rw [hp] at HG; clear hp h1 h2 hA; go_wp2_with (with_reducible refine HG.out.mono ?_; rintro e w' ⟨rfl, hb'⟩); go_roundw; case rel =>
       refine ⟨k + 1, by omega, by go_num, Lib.hid (fun j hj hjk => ?_), hbl.trans hb'⟩; by_cases e : j = k
       · subst e; exact HF.out
       · exact HP.out j hj (by omega)
      case measure => simp [intOf]; omega
    · have HF := Lib.hid hp; rw [hp] at HG; clear hp h1 h2 hA; go_wp2_with (with_reducible refine HG.out.mono ?_; rintro e w' ⟨rfl, hb'⟩); go_ret; exact ⟨ret_int (ixA_hit p l k hlt HF.out HP.out).symm, hbl.trans hb'⟩
  · go_wp2; go_ret; exact ⟨ret_int (ixA_miss p l (fun j hj => HP.out j hj (by omega))).symm, hbl⟩
theorem containsF_c (N : Nat) (cap : Array Value) (p : Atr → Bool) (I : World → Prop) (hD : DoA N cap p I) (l : List Atr) (v : Value) (hl : l.length ≤ 1099511627776) (w : World) (hI : I w) (hA : AtS w v l) :
 Calls Tryz.prog 128 #[v, .func (.func N) #[] cap] w fun e w' => e = .returned (.bool (l.any p)) ∧ Bl w w' := by
 have HI := Lib.hid (indexF_c N cap p I hD l v hl w hI hA); have HX := Lib.hid (ixA_any p l); obtain ⟨ao, vc, rfl, -⟩ := hA; go_enter Tryz.func128, Tryz.ntmps128; go_wp2_with (go_at_call 163; (with_reducible refine HI.out.mono ?_); rintro e w' ⟨rfl, hb'⟩); go_ret; exact ⟨ret_bool HX.out, hb'⟩
def isN (n : List UInt8) (a : Atr) : Bool := a.1 == n
theorem cf_same : ∀ (args : Array Value) (W : World), Sem.run Tryz.prog (callFunc 203 args) W = .ok (.enter 203 args) W := by
 intro args W; simp [callFunc, go_sem, Tryz.func203, Tryz.f203]
theorem clo_same (a : Atr) (n : List UInt8) (q : Nat) (w : World) (hlt : q < w.heap.size) (hq : w.cell? ⟨q, 0, none⟩ = some (.string ⟨n.toArray⟩)) :
 Calls Tryz.prog 203 #[atV a, .pointer (some ⟨q, 0, none⟩)] w fun e w' => e = .returned (.bool (isN n a)) ∧ Bl w w' := by
 unfold atV; go_enter Tryz.func203, Tryz.ntmps203; go_wp2; go_ret; exact ⟨ret_bool (by simp [isN]), (Bl.refl _).alloc _⟩
def InN (n : List UInt8) (q : Nat) (W : World) : Prop := q < W.heap.size ∧ W.cell? ⟨q, 0, none⟩ = some (.string ⟨n.toArray⟩)
theorem InN.bl {n : List UInt8} {q : Nat} (W W' : World) (h : InN n q W) (hb : Bl W W') : InN n q W' := ⟨Nat.lt_of_lt_of_le h.1 (Below.size hb), (hb.cells.1 q 0 h.1).trans h.2⟩
theorem do_same (n : List UInt8) (q : Nat) : DoA 203 #[.pointer (some ⟨q, 0, none⟩)] (isN n) (InN n q) :=
 ⟨cf_same, fun a W h => clo_same a n q W h.1 h.2, InN.bl⟩
def CapOk (v : Value) : Prop := ∃ ao n c, v = .slice ao n c ∧ n ≤ c
def TkS (w : World) (v : Value) (l : List Tok) : Prop :=
 ∃ ao cap, v = .slice ao l.length cap ∧ ∀ i (h : i < l.length), ∃ g o va, ao = some ⟨g, o, none⟩ ∧ g < w.heap.size ∧ w.cell? ⟨g, o + i * 4, none⟩ = some (.int .i64 l[i].1) ∧ w.cell? ⟨g, o + i * 4 + 1, none⟩ = some (.string ⟨l[i].2.1.toArray⟩) ∧
   w.cell? ⟨g, o + i * 4 + 2, none⟩ = some va ∧ w.cell? ⟨g, o + i * 4 + 3, none⟩ = some (.string ⟨l[i].2.2.2.toArray⟩) ∧ AtS w va l[i].2.2.1 ∧ CapOk va
theorem TkS.of_bl {w w' : World} {v : Value} {l : List Tok} (h : TkS w v l) (hb : Bl w w') : TkS w' v l := by
 obtain ⟨ao, cap, rfl, h⟩ := h; refine ⟨ao, cap, rfl, fun i hi => ?_⟩; obtain ⟨g, o, va, h1, h2, h3, h4, h5, h6, h7, h8⟩ := h i hi; exact ⟨g, o, va, h1, Nat.lt_of_lt_of_le h2 (Below.size hb), (hb.cells.1 g _ h2).trans h3, (hb.cells.1 g _ h2).trans h4, (hb.cells.1 g _ h2).trans h5, (hb.cells.1 g _ h2).trans h6, h7.of_bl hb, h8⟩
theorem list_ne {α : Type} {a b : List α} (k : Nat) (h1 : k < a.length) (h2 : k < b.length) (h : a[k] ≠ b[k]) : a ≠ b := by
 rintro rfl; exact h rfl
theorem list_eq {α : Type} {a b : List α} (hl : a.length = b.length) (h : ∀ j (h1 : j < a.length) (h2 : j < b.length), a[j] = b[j]) : a = b := List.ext_getElem hl h
def AtP (w : World) (P : Nat → Prop) (v : Value) (l : List Atr) : Prop :=
 ∃ ao cap, v = .slice ao l.length cap ∧ l.length ≤ cap ∧ ∀ i (h : i < l.length), ∃ g o, ao = some ⟨g, o, none⟩ ∧ g < w.heap.size ∧ P g ∧ w.cell? ⟨g, o + i * 2, none⟩ = some (.string ⟨l[i].1.toArray⟩) ∧ w.cell? ⟨g, o + i * 2 + 1, none⟩ = some (.string ⟨l[i].2.toArray⟩)
theorem AtP.ats {w : World} {P : Nat → Prop} {v : Value} {l : List Atr} (h : AtP w P v l) : AtS w v l := by
 obtain ⟨ao, cap, rfl, hc, h⟩ := h; exact ⟨ao, cap, rfl, fun i hi => by obtain ⟨g, o, h1, h2, _, h3, h4⟩ := h i hi; exact ⟨g, o, h1, h2, h3, h4⟩⟩
theorem AtP.cap {w : World} {P : Nat → Prop} {v : Value} {l : List Atr} (h : AtP w P v l) : CapOk v := by
 obtain ⟨ao, cap, rfl, hc, h⟩ := h; exact ⟨_, _, _, rfl, hc⟩
theorem AtP.nil (w : World) (P : Nat → Prop) : AtP w P (.slice none 0 0) [] := ⟨none, 0, rfl, Nat.le_refl _, fun i hi => absurd hi (by simp)⟩
theorem AtP.mono {w : World} {P Q : Nat → Prop} {v : Value} {l : List Atr} (h : AtP w P v l) (hPQ : ∀ k, P k → Q k) : AtP w Q v l := by
 obtain ⟨ao, cap, rfl, hc, h⟩ := h; exact ⟨ao, cap, rfl, hc, fun i hi => by obtain ⟨g, o, h1, h2, h5, h3, h4⟩ := h i hi; exact ⟨g, o, h1, h2, hPQ _ h5, h3, h4⟩⟩
theorem AtP.of {w : World} {v : Value} {l : List Atr} (h : AtS w v l) (hc : CapOk v) : AtP w (· < w.heap.size) v l := by
 obtain ⟨ao, cap, rfl, h⟩ := h; obtain ⟨_, _, _, e, hc⟩ := hc; cases e; exact ⟨ao, cap, rfl, hc, fun i hi => by obtain ⟨g, o, h1, h2, h3, h4⟩ := h i hi; exact ⟨g, o, h1, h2, h2, h3, h4⟩⟩
structure Still (P : Nat → Prop) (w w' : World) : Prop where
 size : w.heap.size ≤ w'.heap.size
 block : ∀ k, k < w.heap.size → P k → w'.heap[k]? = w.heap[k]?
theorem Still.refl (P : Nat → Prop) (w : World) : Still P w w := ⟨Nat.le_refl _, fun _ _ _ => rfl⟩
theorem Still.trans {P : Nat → Prop} {a b c : World} (h : Still P a b) (k : Still P b c) : Still P a c :=
 ⟨Nat.le_trans h.size k.size, fun i hi hp => (k.block i (Nat.lt_of_lt_of_le hi h.size) hp).trans (h.block i hi hp)⟩
theorem Still.of_bl {P : Nat → Prop} {w w' : World} (h : Bl w w') : Still P w w' := ⟨Below.size h, fun k hk _ => Below.block h k hk⟩
theorem Still.of_gr {P : Nat → Prop} {w w' : World} {g : Option Nat} (h : w.grownBy w' g) (hg : ∀ k, g = some k → ¬ P k) : Still P w w' :=
 ⟨h.size, fun k hk hp => h.block k hk (fun e => hg k e.symm hp)⟩
theorem Still.mono {P Q : Nat → Prop} {w w' : World} (h : Still P w w') (hQ : ∀ k, Q k → P k) : Still Q w w' := ⟨h.size, fun k hk hq => h.block k hk (hQ k hq)⟩
theorem Still.set {P : Nat → Prop} (w : World) (b o : Nat) (v : Value) (hb : ¬ P b) : Still P w (w.setCell ⟨b, o, none⟩ v) :=
 ⟨by simp, fun k hk hp => by
  have : b ≠ k := fun e => hb (e ▸ hp)
  unfold World.setCell; simp [Array.getElem?_modify, this]⟩
theorem Still.cell {P : Nat → Prop} {w w' : World} (h : Still P w w') {g o : Nat} (hg : g < w.heap.size) (hp : P g) : w'.cell? ⟨g, o, none⟩ = w.cell? ⟨g, o, none⟩ :=
 World.cell?_of_block (h.block g hg hp)
theorem AtP.still {w w' : World} {P : Nat → Prop} {v : Value} {l : List Atr} (h : AtP w P v l) (hs : Still P w w') : AtP w' P v l := by
 obtain ⟨ao, cap, rfl, hc, h⟩ := h; exact ⟨ao, cap, rfl, hc, fun i hi => by obtain ⟨g, o, h1, h2, h5, h3, h4⟩ := h i hi; exact ⟨g, o, h1, Nat.lt_of_lt_of_le h2 hs.size, h5, (hs.cell h2 h5).trans h3, (hs.cell h2 h5).trans h4⟩⟩
mutual
def NdC (w : World) (P : Nat → Prop) (g o : Nat) : Nd → Prop
 | .mk n a x k => ∃ va ak ck, w.cell? ⟨g, o, none⟩ = some (.string ⟨n.toArray⟩) ∧ w.cell? ⟨g, o + 1, none⟩ = some va ∧ w.cell? ⟨g, o + 2, none⟩ = some (.string ⟨x.toArray⟩) ∧
  w.cell? ⟨g, o + 3, none⟩ = some (.slice ak k.length ck) ∧ AtP w P va a ∧ k.length ≤ ck ∧ (k ≠ [] → ∃ g' o', ak = some ⟨g', o', none⟩ ∧ g' < w.heap.size ∧ P g' ∧ NdL w P g' o' k)
def NdL (w : World) (P : Nat → Prop) (g o : Nat) : List Nd → Prop
 | [] => True
 | d :: l => NdC w P g o d ∧ NdL w P g (o + 4) l
end
def NdS (w : World) (P : Nat → Prop) (v : Value) (l : List Nd) : Prop :=
 ∃ ao cap, v = .slice ao l.length cap ∧ l.length ≤ cap ∧ (l ≠ [] → ∃ g o, ao = some ⟨g, o, none⟩ ∧ g < w.heap.size ∧ P g ∧ NdL w P g o l)
theorem NdC_mk {w : World} {P : Nat → Prop} {g o : Nat} {d : Nd} : NdC w P g o d ↔ ∃ va vk, w.cell? ⟨g, o, none⟩ = some (.string ⟨d.n.toArray⟩) ∧ w.cell? ⟨g, o + 1, none⟩ = some va ∧ w.cell? ⟨g, o + 2, none⟩ = some (.string ⟨d.x.toArray⟩) ∧
 w.cell? ⟨g, o + 3, none⟩ = some vk ∧ AtP w P va d.a ∧ NdS w P vk d.k := by
 cases d with
 | mk n a x k =>
   simp only [NdC, NdS, Nd.n, Nd.a, Nd.x, Nd.k]; constructor
   · rintro ⟨va, ak, ck, h1, h2, h3, h4, h5, h6, h7⟩; exact ⟨va, _, h1, h2, h3, h4, h5, ak, ck, rfl, h6, h7⟩
   · rintro ⟨va, vk, h1, h2, h3, h4, h5, ak, ck, rfl, h6, h7⟩; exact ⟨va, ak, ck, h1, h2, h3, h4, h5, h6, h7⟩
theorem NdL_iff {w : World} {P : Nat → Prop} {g : Nat} (l : List Nd) : ∀ o : Nat, NdL w P g o l ↔ ∀ i (h : i < l.length), NdC w P g (o + i * 4) l[i] := by
 induction l with
 | nil => intro o; simp [NdL]
 | cons d l ih =>
   intro o; simp only [NdL, ih]; constructor
   · rintro ⟨h1, h2⟩ i hi; cases i with
     | zero => simpa using h1
     | succ i =>
       have := h2 i (by simpa using hi); simp only [List.getElem_cons_succ]; rw [show o + (i + 1) * 4 = o + 4 + i * 4 by omega]; exact this
   · intro h; refine ⟨by have := h 0 (by simp); rw [Nat.zero_mul, Nat.add_zero] at this; exact this, fun i hi => ?_⟩; have := h (i + 1) (by simpa using hi); simp only [List.getElem_cons_succ] at this; rw [show o + 4 + i * 4 = o + (i + 1) * 4 by omega]; exact this
theorem NdS.nil (w : World) (P : Nat → Prop) : NdS w P (.slice none 0 0) [] := ⟨none, 0, rfl, Nat.le_refl _, fun h => absurd rfl h⟩
theorem NdL.mono {w w' : World} {P Q : Nat → Prop} (hs : Still P w w') (hPQ : ∀ k, P k → Q k) (l : List Nd) : ∀ g o, g < w.heap.size → P g → NdL w P g o l → NdL w' Q g o l := by
 induction l using Nd.ind with
 | h0 => intro g o _ _ _; trivial
 | h1 n a x k l ik il =>
   intro g o hg hp h; simp only [NdL, NdC] at h ⊢; obtain ⟨⟨va, ak, ck, h1, h2, h3, h4, h5, h6, h7⟩, h8⟩ := h; refine ⟨⟨va, ak, ck, (hs.cell hg hp).trans h1, (hs.cell hg hp).trans h2, (hs.cell hg hp).trans h3, (hs.cell hg hp).trans h4, (h5.still hs).mono hPQ, h6, fun hk => ?_⟩, il g _ hg hp h8⟩; obtain ⟨g', o', e, g1, g2, g3⟩ := h7 hk; exact ⟨g', o', e, Nat.lt_of_lt_of_le g1 hs.size, hPQ _ g2, ik g' o' g1 g2 g3⟩
theorem NdS.mono {w : World} {P Q : Nat → Prop} {v : Value} {l : List Nd} (h : NdS w P v l) (hPQ : ∀ k, P k → Q k) : NdS w Q v l := by
 obtain ⟨ao, cap, rfl, hc, h⟩ := h; refine ⟨ao, cap, rfl, hc, fun hl => ?_⟩; obtain ⟨g, o, e, g1, g2, g3⟩ := h hl; exact ⟨g, o, e, g1, hPQ _ g2, NdL.mono (Still.refl _ _) hPQ l g o g1 g2 g3⟩
theorem NdS.still {w w' : World} {P : Nat → Prop} {v : Value} {l : List Nd} (h : NdS w P v l) (hs : Still P w w') : NdS w' P v l := by
 obtain ⟨ao, cap, rfl, hc, h⟩ := h; refine ⟨ao, cap, rfl, hc, fun hl => ?_⟩; obtain ⟨g, o, e, g1, g2, g3⟩ := h hl; exact ⟨g, o, e, Nat.lt_of_lt_of_le g1 hs.size, g2, NdL.mono hs (fun _ h => h) l g o g1 g2 g3⟩
theorem NdS.of_bl {w w' : World} {P : Nat → Prop} {v : Value} {l : List Nd} (h : NdS w P v l) (hb : Bl w w') : NdS w' P v l := h.still (Still.of_bl hb)
theorem NdS.get {w : World} {P : Nat → Prop} {v : Value} {l : List Nd} (h : NdS w P v l) : ∃ ao cap, v = .slice ao l.length cap ∧ l.length ≤ cap ∧
 ∀ i (hi : i < l.length), ∃ g o va vk, ao = some ⟨g, o, none⟩ ∧ g < w.heap.size ∧ P g ∧ w.cell? ⟨g, o + i * 4, none⟩ = some (.string ⟨l[i].n.toArray⟩) ∧ w.cell? ⟨g, o + i * 4 + 1, none⟩ = some va ∧
   w.cell? ⟨g, o + i * 4 + 2, none⟩ = some (.string ⟨l[i].x.toArray⟩) ∧ w.cell? ⟨g, o + i * 4 + 3, none⟩ = some vk ∧ AtP w P va l[i].a ∧ NdS w P vk l[i].k := by
 obtain ⟨ao, cap, rfl, hc, h⟩ := h; refine ⟨ao, cap, rfl, hc, fun i hi => ?_⟩; obtain ⟨g, o, e, g1, g2, g3⟩ := h (by rintro rfl; simp at hi); obtain ⟨va, vk, q⟩ := NdC_mk.1 ((NdL_iff l o).1 g3 i hi); exact ⟨g, o, va, vk, e, g1, g2, q⟩
abbrev Nent := Nd × Value × Value
def ndV (l : List Nent) : List Value := l.flatMap fun p => [.string ⟨p.1.n.toArray⟩, p.2.1, .string ⟨p.1.x.toArray⟩, p.2.2]
theorem ndV_snoc (l : List Nent) (p : Nent) : ndV (l ++ [p]) = ndV l ++ [.string ⟨p.1.n.toArray⟩, p.2.1, .string ⟨p.1.x.toArray⟩, p.2.2] := by simp [ndV]
theorem ndV_len (l : List Nent) : (ndV l).length = l.length * 4 := by
 induction l with
 | nil => rfl
 | cons a l ih => simp only [ndV, List.flatMap_cons, List.length_append, List.length_cons, List.length_nil] at *; omega
theorem ndV_get : ∀ (l : List Nent) (i : Nat) (h : i < l.length), (ndV l)[i * 4]? = some (.string ⟨l[i].1.n.toArray⟩) ∧ (ndV l)[i * 4 + 1]? = some l[i].2.1 ∧ (ndV l)[i * 4 + 2]? = some (.string ⟨l[i].1.x.toArray⟩) ∧ (ndV l)[i * 4 + 3]? = some l[i].2.2 := by
 intro l; induction l with
 | nil => intro i h; simp at h
 | cons a l ih =>
   intro i h; cases i with
   | zero => simp [ndV]
   | succ i =>
     have := ih i (by simpa using h); have e : (i + 1) * 4 = i * 4 + 1 + 1 + 1 + 1 := by omega
     rw [e]; simp only [ndV, List.flatMap_cons, List.cons_append, List.nil_append, List.getElem?_cons_succ, List.getElem_cons_succ] at *; exact this
structure NdO (w : World) (base : Nat) (P : Nat → Prop) (v : Value) (l : List Nd) (ents : List Nent) : Prop where
 eq : ents.map (·.1) = l
 row : w.ownsRow base 76 4 v ents.length (ndV ents)
 low : ∀ k, v.ownBlock = some k → ¬ P k
 all : ∀ p ∈ ents, AtP w P p.2.1 p.1.a ∧ NdS w P p.2.2 p.1.k
theorem NdO.nil (w : World) (base : Nat) (P : Nat → Prop) : NdO w base P (.slice none 0 0) [] [] := ⟨rfl, World.ownsRow_nil _ _ _ _, fun k h => by simp [Value.ownBlock] at h, fun p h => by cases h⟩
theorem NdO.len {w : World} {base : Nat} {P : Nat → Prop} {v : Value} {l : List Nd} {ents : List Nent} (h : NdO w base P v l ents) : ents.length = l.length := by rw [← h.eq]; simp
theorem NdO.still {w w' : World} {base : Nat} {P : Nat → Prop} {v : Value} {l : List Nd} {ents : List Nent} (h : NdO w base P v l ents) (hs : Still (fun k => P k ∨ v.ownBlock = some k) w w') : NdO w' base P v l ents := by
 have hP : Still P w w' := hs.mono fun k hk => .inl hk
 refine ⟨h.eq, ⟨h.row.1, ?_⟩, h.low, fun p hp => ⟨(h.all p hp).1.still hP, (h.all p hp).2.still hP⟩⟩; rcases h.row.2 with hn | ⟨g, cap, cur, rfl, hg, hgg, rest⟩
 · exact .inl hn
 · refine .inr ⟨g, cap, cur, rfl, hg, ?_, rest⟩; rw [hs.block g (Array.getElem?_eq_some_iff.1 hgg).1 (.inr rfl)]; exact hgg
theorem NdO.of_bl {w w' : World} {base : Nat} {P : Nat → Prop} {v : Value} {l : List Nd} {ents : List Nent} (h : NdO w base P v l ents) (hb : Bl w w') : NdO w' base P v l ents := h.still (Still.of_bl hb)
theorem NdO.mono {w : World} {base : Nat} {P Q : Nat → Prop} {v : Value} {l : List Nd} {ents : List Nent} (h : NdO w base P v l ents) (hPQ : ∀ k, P k → Q k) (hQ : ∀ k, v.ownBlock = some k → ¬ Q k) : NdO w base Q v l ents :=
 ⟨h.eq, h.row, hQ, fun p hp => ⟨(h.all p hp).1.mono hPQ, (h.all p hp).2.mono hPQ⟩⟩
theorem NdO.lt {w : World} {base : Nat} {P : Nat → Prop} {v : Value} {l : List Nd} {ents : List Nent} (h : NdO w base P v l ents) : ∀ k, v.ownBlock = some k → base ≤ k ∧ k < w.heap.size := World.ownsRow.lt h.row
theorem NdO.nds {w : World} {base : Nat} {P : Nat → Prop} {v : Value} {l : List Nd} {ents : List Nent} (h : NdO w base P v l ents) : NdS w (fun k => P k ∨ v.ownBlock = some k) v l := by
 obtain ⟨rfl, h2, h3, h4⟩ := h; have h' := h2; rcases h2.2 with ⟨rfl, h0⟩ | ⟨g, cap, cur, rfl, -, hg, hnc, -⟩
 · have : ents = [] := List.eq_nil_of_length_eq_zero h0; subst this; exact NdS.nil _ _
 · refine ⟨some ⟨g, 0, none⟩, cap, by simp, by simpa using hnc, fun _ => ⟨g, 0, rfl, (Array.getElem?_eq_some_iff.1 hg).1, .inr rfl, (NdL_iff _ _).2 fun i hi => ?_⟩⟩; have hi' : i < ents.length := by simpa using hi
   obtain ⟨t1, t2, t3, t4⟩ := ndV_get ents i hi'; have key := fun j u (h : (ndV ents)[j]? = some u) => (World.ownsRow.cellAt h' j (by have := List.getElem?_eq_some_iff.1 h; obtain ⟨q, _⟩ := this; rw [ndV_len] at q; exact q)).trans h
   have hall := h4 ents[i] (List.getElem_mem hi'); refine NdC_mk.2 ⟨ents[i].2.1, ents[i].2.2, ?_, ?_, ?_, ?_, ?_, ?_⟩
   · have := key _ _ t1; simpa using this
   · have := key _ _ t2; simpa using this
   · have := key _ _ t3; simpa using this
   · have := key _ _ t4; simpa using this
   · have := hall.1.mono (Q := fun k => P k ∨ Value.ownBlock (.slice (some ⟨g, 0, none⟩) ents.length cap) = some k) (fun _ h => .inl h); simpa using this
   · have := hall.2.mono (Q := fun k => P k ∨ Value.ownBlock (.slice (some ⟨g, 0, none⟩) ents.length cap) = some k) (fun _ h => .inl h); simpa using this
theorem NdO.snoc {w wz : World} {base : Nat} {P : Nat → Prop} {v v' : Value} {l : List Nd} {ents : List Nent} (d : Nd) (va vk : Value) (h : NdO w base P v l ents) (hP : ∀ k, P k → k < w.heap.size) (ha : AtP w P va d.a) (hk : NdS w P vk d.k)
 (hown : wz.ownsRow base 76 4 v' (ents.length + 1) (ndV ents ++ [.string ⟨d.n.toArray⟩, va, .string ⟨d.x.toArray⟩, vk])) (hg : Grew w wz v v') : NdO wz base P v' (l ++ [d]) (ents ++ [(d, va, vk)]) := by
 have hs : Still P w wz := by
  rcases hg with ⟨_, hg⟩ | ⟨hg, _⟩
  · exact Still.of_gr hg h.low
  · exact Still.of_gr hg (fun k e => by cases e)
 refine ⟨by simp [h.eq], by rw [ndV_snoc, List.length_append]; exact hown, fun k e hp => ?_, fun p hp => ?_⟩
 · rcases hg with ⟨e2, _⟩ | ⟨_, j, e2, hj⟩
   · exact h.low k (e2.symm.trans e) hp
   · have := hP k hp; rw [e2] at e; cases e; omega
 · rcases List.mem_append.1 hp with hp | hp
   · exact ⟨(h.all p hp).1.still hs, (h.all p hp).2.still hs⟩
   · rw [List.mem_singleton] at hp; subst hp; exact ⟨ha.still hs, hk.still hs⟩
theorem ndV_set (o : List Nent) (d : Nd) (va vk : Value) (y : List UInt8) : (ndV (o ++ [(d, va, vk)])).set (o.length * 4 + 2) (.string ⟨y.toArray⟩) = ndV (o ++ [(.mk d.n d.a y d.k, va, vk)]) := by
 rw [ndV_snoc, ndV_snoc, List.set_append_right _ _ (by rw [ndV_len]; omega), ndV_len, show o.length * 4 + 2 - o.length * 4 = 2 by omega]; rfl
theorem NdO.settext {w : World} {base : Nat} {P : Nat → Prop} {g cap n : Nat} {l : List Nd} {d : Nd} {ents : List Nent} (h : NdO w base P (.slice (some ⟨g, 0, none⟩) n cap) (l ++ [d]) ents) (y : List UInt8) :
 ∃ ents', NdO (w.setCell ⟨g, l.length * 4 + 2, none⟩ (.string ⟨y.toArray⟩)) base P (.slice (some ⟨g, 0, none⟩) n cap) (l ++ [.mk d.n d.a y d.k]) ents' := by
 obtain ⟨h1, h2, h3, h4⟩ := h; rcases List.eq_nil_or_concat ents with rfl | ⟨o, p, rfl⟩
 · simp at h1
 · obtain ⟨d', va, vk⟩ := p; rw [List.concat_eq_append] at *; rw [List.map_append, List.map_singleton] at h1; obtain ⟨hl, e⟩ := List.append_inj' h1 rfl; simp only [List.cons.injEq, and_true] at e; subst e; have hol : l.length = o.length := by rw [← hl]; simp
   rw [hol]; have hn : n = (o ++ [(d', va, vk)]).length := by
    rcases h2.2 with ⟨e, _⟩ | ⟨g, cap, cur, e, _⟩ <;> simp at e ⊢; omega
   subst hn; have hst := World.ownsRow.stored h2 (o.length * 4 + 2) (.string ⟨y.toArray⟩); have hS : Still P w (w.setCell ⟨g, o.length * 4 + 2, none⟩ (.string ⟨y.toArray⟩)) := Still.set _ _ _ _ (h3 g rfl); refine ⟨o ++ [(.mk d'.n d'.a y d'.k, va, vk)], by simp [hl], ?_, h3, fun p hp => ?_⟩
   · rw [← ndV_set]; simpa using hst.1
   · rcases List.mem_append.1 hp with hp | hp
     · have := h4 p (List.mem_append_left _ hp); exact ⟨this.1.still hS, this.2.still hS⟩
     · rw [List.mem_singleton] at hp; subst hp; have := h4 (d', va, vk) (by simp); exact ⟨this.1.still hS, this.2.still hS⟩
end Go.Proofs.YtamdlihgecpbkaaGreatDoor

/- Tokens: the reader's steps, said by what is left of the text; begins, letterAt, to, Folded. · Tokens: small letters: Folded of the program, FoldOf of the reference. · Tokens: a value behind a =. -/
import Derived.Test.YthnpljkekhieiaaGreatDoorTokD
namespace Go.Proofs.YthnpljkekhieiaaGreatDoor
open Go.RowKit

/-- The reader, by what is left. -/
structure Rr (w : World) (b : Nat) (s t x : List UInt8) (v : Value) : Prop where
  rk : Rk w b s (s.length - t.length) x v
  sf : t <:+ s
theorem sfx_drop {s t : List UInt8} (h : t <:+ s) : s.drop (s.length - t.length) = t := by
  obtain ⟨p, rfl⟩ := h
  simp
theorem Rr.of_bl {w w' : World} {b : Nat} {s t x : List UInt8} {v : Value} (h : Rr w b s t x v) (hb : Bl w w') : Rr w' b s t x v := ⟨h.rk.of_bl hb, h.sf⟩
theorem Rr.len {w : World} {b : Nat} {s t x : List UInt8} {v : Value} (h : Rr w b s t x v) : t.length ≤ s.length := h.sf.length_le

theorem here_r (N : Nat) (p : UInt8 → Bool) (hD : Do N #[] p Tr) (b : Nat) (s t x : List UInt8) (v : Value) (w : World) (hR : Rr w b s t x v) (hs : s.length ≤ 1099511627776) :
    Calls Tryz.prog 160 #[.pointer (some ⟨b, 0, none⟩), .func (.func N) #[] #[]] w fun e w' => e = .returned (.bool (hd p t)) ∧ Qt w w' := by
  have := here_c N #[] p Tr hD b _ s x v w trivial hR.rk hs
  rwa [sfx_drop hR.sf] at this
theorem pass_r0 (N : Nat) (cap : Array Value) (p : UInt8 → Bool) (I : World → Prop) (hD : Do N cap p I) (b : Nat) (s t x : List UInt8) (v : Value) (w : World) (hI : I w) (hI2 : ∀ W u, I W → I (W.setCell ⟨b, 1, none⟩ u)) (hR : Rr w b s t x v) (hs : s.length ≤ 1099511627776) :
    Calls Tryz.prog 145 #[.pointer (some ⟨b, 0, none⟩), .func (.func N) #[] cap] w fun e w' => e = .returned (.string ⟨(t.takeWhile p).toArray⟩) ∧
      Rr w' b s (t.dropWhile p) x v ∧ w.grownBy w' (some b) := by
  refine (pass_c N cap p I hD b _ s x v w hI hI2 hR.rk (Nat.sub_le _ _) hs).mono ?_
  rintro e w' ⟨rfl, h1, h2, -⟩
  rw [sfx_drop hR.sf] at h1 ⊢
  have hl := hR.len
  have e : s.length - t.length + (t.takeWhile p).length = s.length - (t.dropWhile p).length := by
    have := congrArg List.length (List.takeWhile_append_dropWhile (p := p) (l := t))
    rw [List.length_append] at this; omega
  rw [e] at h1
  exact ⟨rfl, ⟨h1, (List.dropWhile_suffix p).trans hR.sf⟩, h2⟩
theorem pass_r (N : Nat) (p : UInt8 → Bool) (hD : Do N #[] p Tr) (b : Nat) (s t x : List UInt8) (v : Value) (w : World) (hR : Rr w b s t x v) (hs : s.length ≤ 1099511627776) :
    Calls Tryz.prog 145 #[.pointer (some ⟨b, 0, none⟩), .func (.func N) #[] #[]] w fun e w' => e = .returned (.string ⟨(t.takeWhile p).toArray⟩) ∧
      Rr w' b s (t.dropWhile p) x v ∧ w.grownBy w' (some b) := pass_r0 N #[] p Tr hD b s t x v w trivial (Tr2 b) hR hs
theorem need_end (b : Nat) (s x : List UInt8) (v : Value) (w : World) (hR : Rr w b s [] x v) :
    Calls Tryz.prog 177 #[.pointer (some ⟨b, 0, none⟩)] w fun e w' => e = .panicked OPN ∧ Qt w w' := need_no b s x v w (by simpa using hR.rk)
theorem need_r (b : Nat) (s : List UInt8) (c : UInt8) (t x : List UInt8) (v : Value) (w : World) (hR : Rr w b s (c :: t) x v) (hs : s.length ≤ 1099511627776) :
    Calls Tryz.prog 177 #[.pointer (some ⟨b, 0, none⟩)] w fun e w' => e = .returned (.int .u8 (c.toNat : Int)) ∧ Rr w' b s t x v ∧ w.grownBy w' (some b) := by
  have hl := hR.len
  simp only [List.length_cons] at hl
  have hd := sfx_drop hR.sf
  rw [List.length_cons] at hd
  have hk : s.length - (t.length + 1) < s.length := by omega
  have hc : s[s.length - (t.length + 1)] = c := by
    have := List.drop_eq_getElem_cons hk
    rw [hd] at this
    exact (List.cons.inj this).1.symm
  refine (need_yes b _ s x v w hR.rk hk hs).mono ?_
  rintro e w' ⟨rfl, h1, h2⟩
  refine ⟨by simp only [List.length_cons, hc], ⟨?_, (List.suffix_cons c t).trans hR.sf⟩, h2⟩
  rw [show s.length - t.length = s.length - (c :: t).length + 1 by simp only [List.length_cons]; omega]
  exact h1

set_option maxHeartbeats 1000000 in
theorem begins_r (p : List UInt8) (b : Nat) (s t x : List UInt8) (v : Value) (w : World) (hR : Rr w b s t x v) (_hs : s.length ≤ 1099511627776) :
    Calls Tryz.prog 144 #[.pointer (some ⟨b, 0, none⟩), .string ⟨p.toArray⟩] w fun e w' => e = .returned (.bool (pre p t)) ∧ Qt w w' := by
  obtain ⟨c0, c1, c2, c3, f0, f1, f2, f3⟩ := hR.rk.cells
  have hd := sfx_drop hR.sf
  have hk : s.length - t.length ≤ s.length := Nat.sub_le _ _
  obtain ⟨k, hk'⟩ : ∃ k, k = s.length - t.length := ⟨_, rfl⟩
  rw [← hk'] at c1 hd hk
  have HD := Lib.hid hd
  clear hR hk' hd
  go_enter Tryz.func144, Tryz.ntmps144
  go_wp2_with (go_quiet (first | (go_at_call 159; exact quiet_eq (hasPrefix_c (s.drop k) p _))))
  go_ret
  exact ⟨by rw [← HD.out]; rfl, (Qt.refl _).drewN _⟩

set_option maxHeartbeats 1000000 in
theorem letterAt_r (m : Nat) (hm : m ≤ 2) (b : Nat) (s t x : List UInt8) (v : Value) (w : World) (hR : Rr w b s t x v) (hs : s.length ≤ 1099511627776) :
    Calls Tryz.prog 147 #[.pointer (some ⟨b, 0, none⟩), .int .i64 (m : Int)] w fun e w' => e = .returned (.bool (hd ltr (t.drop m))) ∧ Qt w w' := by
  obtain ⟨c0, c1, c2, c3, f0, f1, f2, f3⟩ := hR.rk.cells
  have hd := sfx_drop hR.sf
  have hk : s.length - t.length ≤ s.length := Nat.sub_le _ _
  obtain ⟨k, hk'⟩ : ∃ k, k = s.length - t.length := ⟨_, rfl⟩
  rw [← hk'] at c1 hd hk
  rw [← hd, List.drop_drop]
  clear hR hk' hd
  by_cases hlt : k + m < s.length
  · have hlt' : (k : Int) + (m : Int) < (s.length : Int) := by omega
    have H1 := Lib.hid (hd_drop ltr s (k + m) hlt)
    have hn : ((k : Int) + (m : Int)).toNat = k + m := by omega
    have h0 : (0 : Int) ≤ (k : Int) + (m : Int) := by omega
    go_enter Tryz.func147, Tryz.ntmps147
    go_wp2_with (go_quiet (first | (go_at_call 161; exact quiet_eq (letter_c s[k + m] _))))
    go_ret
    exact ⟨by rw [H1.out]; rfl, (Qt.refl _).drewN _⟩
  · have hlt' : decide ((k : Int) + (m : Int) < (s.length : Int)) = false := by simp; omega
    have H1 := Lib.hid (hd_end ltr s (k + m) (by omega))
    go_enter Tryz.func147, Tryz.ntmps147
    go_wp2_with (go_quiet (fail))
    go_ret
    exact ⟨by rw [H1.out]; rfl, (Qt.refl _).drewN _⟩

/-- The variable bytealg.MaxLen holds some number. -/
def ML (w : World) : Prop := ∃ m, 0 < w.heap.size ∧ w.cell? ⟨0, 0, none⟩ = some (.int .i64 m)
theorem ML.of_bl {w w' : World} (h : ML w) (hb : Bl w w') : ML w' := by
  obtain ⟨m, h1, h2⟩ := h
  exact ⟨m, Nat.lt_of_lt_of_le h1 (Below.size hb), (hb.cells.1 _ 0 h1).trans h2⟩
theorem ML.of_gb {w w' : World} {b : Nat} (h : ML w) (hg : w.grownBy w' (some b)) (hb : 0 < b) : ML w' := by
  obtain ⟨m, h1, h2⟩ := h
  exact ⟨m, Nat.lt_of_lt_of_le h1 hg.size, hg.cell h2 (by simp; omega)⟩
theorem find_c (l p : List UInt8) (hl : l.length ≤ 4294967280) (w : World) (hM : ML w) :
    Calls Tryz.prog 167 #[.string ⟨l.toArray⟩, .string ⟨p.toArray⟩] w fun e w' => e = .returned (.int .i64 (Lib.index l p)) ∧ w = w' := by
  obtain ⟨m, h1, h2⟩ := hM
  exact (Tryz.strings_Index ⟨l.toArray⟩ ⟨p.toArray⟩ m w (by simp [ByteArray.size]; omega) h2).mono fun _ _ ⟨he, hw⟩ => ⟨he, hw.symm⟩
theorem cutS_index (p : List UInt8) (hp : p ≠ []) : ∀ l : List UInt8, (Lib.index l p = -1 ∧ cutS p l = none) ∨ (∃ i : Nat, Lib.index l p = i ∧ i + p.length ≤ l.length ∧ cutS p l = some (l.drop (i + p.length))) := by
  intro l
  induction l with
  | nil =>
    left
    cases p with
    | nil => exact absurd rfl hp
    | cons a p => exact ⟨rfl, rfl⟩
  | cons c l ih =>
    by_cases h : pre p (c :: l) = true
    · right
      refine ⟨0, ?_, by have := pre_len h; omega, ?_⟩
      · unfold Lib.index; rw [show p.isPrefixOf (c :: l) = true from h]; rfl
      · unfold cutS; rw [if_pos h]; simp
    · have h' : p.isPrefixOf (c :: l) = false := Bool.eq_false_iff.2 h
      rcases ih with ⟨h1, h2⟩ | ⟨i, h1, h2, h3⟩
      · left
        refine ⟨?_, ?_⟩
        · unfold Lib.index; rw [h', h1]; rfl
        · unfold cutS; rw [if_neg h, h2]
      · right
        refine ⟨i + 1, ?_, by simp only [List.length_cons]; omega, ?_⟩
        · unfold Lib.index; rw [h', h1]
          have : ((i : Int) == -1) = false := by rw [beq_eq_false_iff_ne]; omega
          simp [this]
        · unfold cutS; rw [if_neg h, h3, Nat.add_right_comm]; rfl

set_option maxHeartbeats 1000000 in
theorem to_no (p : List UInt8) (hp : p ≠ []) (_hp2 : p.length ≤ 3) (m : Nat) (hm : m ≤ 2) (b : Nat) (s t x : List UInt8) (v : Value) (w : World) (hR : Rr w b s t x v) (hs : s.length ≤ 4294967280) (hM : ML w) (hc : cutS p (t.drop m) = none) :
    Calls Tryz.prog 149 #[.pointer (some ⟨b, 0, none⟩), .string ⟨p.toArray⟩, .int .i64 (m : Int)] w fun e w' => e = .panicked OPN ∧ Qt w w' := by
  obtain ⟨c0, c1, c2, c3, f0, f1, f2, f3⟩ := hR.rk.cells
  have hd := sfx_drop hR.sf
  have hk : s.length - t.length ≤ s.length := Nat.sub_le _ _
  obtain ⟨k, hk'⟩ : ∃ k, k = s.length - t.length := ⟨_, rfl⟩
  rw [← hk'] at c1 hd hk
  rw [← hd, List.drop_drop] at hc
  have hi : Lib.index (s.drop (k + m)) p = -1 := by
    rcases cutS_index p hp (s.drop (k + m)) with ⟨h1, _⟩ | ⟨i, _, _, h3⟩
    · exact h1
    · rw [hc] at h3; cases h3
  have hmin : min (s.length : Int) ((k : Int) + (m : Int)) = ((min s.length (k + m) : Nat) : Int) := by omega
  have hmd : s.drop (min s.length (k + m)) = s.drop (k + m) := by
    rcases Nat.le_total s.length (k + m) with h | h
    · rw [Nat.min_eq_left h, List.drop_eq_nil_of_le (Nat.le_refl _), List.drop_eq_nil_of_le h]
    · rw [Nat.min_eq_right h]
  have hml : min s.length (k + m) ≤ s.length := Nat.min_le_left _ _
  obtain ⟨j, hj⟩ : ∃ j, j = min s.length (k + m) := ⟨_, rfl⟩
  rw [← hj] at hmin hmd hml
  have FC := Lib.hid (fun n : Nat => find_c (s.drop j) p (by simp; omega) (w.drewN n) (hM.of_bl ((Bl.refl _).drewN n)))
  rw [hmd, hi] at FC
  rw [← hmd] at FC
  clear hR hk' hd hc hi hmd hj
  go_enter Tryz.func149, Tryz.ntmps149
  go_wp2_with (go_quiet (first | (go_at_call 167; exact quiet_eq (FC.out _))))
  exact ⟨rfl, rfl, (Qt.refl _).drewN _⟩
set_option maxHeartbeats 1000000 in
theorem to_yes (p : List UInt8) (hp : p ≠ []) (hp2 : p.length ≤ 3) (m : Nat) (hm : m ≤ 2) (b : Nat) (s t x u : List UInt8) (v : Value) (w : World) (hR : Rr w b s t x v) (hs : s.length ≤ 4294967280) (hM : ML w) (hc : cutS p (t.drop m) = some u) :
    Calls Tryz.prog 149 #[.pointer (some ⟨b, 0, none⟩), .string ⟨p.toArray⟩, .int .i64 (m : Int)] w fun e w' => e = .returned (.tuple #[]) ∧ Rr w' b s u x v ∧ w.grownBy w' (some b) := by
  obtain ⟨c0, c1, c2, c3, f0, f1, f2, f3⟩ := hR.rk.cells
  have hd := sfx_drop hR.sf
  have hk : s.length - t.length ≤ s.length := Nat.sub_le _ _
  have hRk := hR.rk
  obtain ⟨k, hk'⟩ : ∃ k, k = s.length - t.length := ⟨_, rfl⟩
  rw [← hk'] at c1 hd hk hRk
  rw [← hd, List.drop_drop] at hc
  obtain ⟨i, hi, hil, hu⟩ : ∃ i : Nat, Lib.index (s.drop (k + m)) p = i ∧ i + p.length ≤ (s.drop (k + m)).length ∧ u = s.drop (k + m + (i + p.length)) := by
    rcases cutS_index p hp (s.drop (k + m)) with ⟨_, h1⟩ | ⟨i, h1, h2, h3⟩
    · rw [hc] at h1; cases h1
    · rw [hc, List.drop_drop] at h3; exact ⟨i, h1, h2, Option.some.inj h3⟩
  rw [List.length_drop] at hil
  have hp0 : 0 < p.length := List.length_pos_iff.2 hp
  have hkm : k + m ≤ s.length := by omega
  have hmin : min (s.length : Int) ((k : Int) + (m : Int)) = ((k + m : Nat) : Int) := by omega
  have FC := Lib.hid (fun n : Nat => find_c (s.drop (k + m)) p (by simp; omega) (w.drewN n) (hM.of_bl ((Bl.refl _).drewN n)))
  rw [hi] at FC
  have hul : k + m + (i + p.length) = s.length - u.length := by rw [hu, List.length_drop]; omega
  have HU := Lib.hid hul
  have HS := Lib.hid (show u <:+ s by rw [hu]; exact List.drop_suffix _ _)
  have i0 : ¬ (i : Int) < 0 := by omega
  have hib : k + m + i + p.length ≤ s.length := by omega
  clear hR hk' hd hc hi hu hul
  go_enter Tryz.func149, Tryz.ntmps149
  go_wp2_with (go_quiet (first | (go_at_call 167; exact quiet_eq (FC.out _))))
  go_end0
  exact ⟨rfl, ⟨(hRk.of_bl ((Bl.refl _).drewN _)).seti (by rw [← HU.out]; omega), HS.out⟩, gb_set (gb_drewN (gb_refl _ _) _) _ _⟩
end Go.Proofs.YthnpljkekhieiaaGreatDoor

namespace Go.Proofs.YthnpljkekhieiaaGreatDoor
open Go.RowKit

theorem fld_nat (c : UInt8) : (fld c).toNat = if 65 ≤ c.toNat ∧ c.toNat ≤ 90 then c.toNat + 32 else c.toNat := by
  unfold fld
  split
  · rename_i h
    rw [UInt8.toNat_add]
    simp only [show (32 : UInt8).toNat = 32 from rfl]
    omega
  · rfl
theorem fold_len (l : List UInt8) : (fold l).length = l.length := by simp [fold]
theorem conv_cap (W : World) (g cap : Nat) (l : List UInt8) (h : BA W g l) : (convert 89 9 (.slice (some ⟨g, 0, none⟩) l.length cap)).run Tryz.prog W = .ok (.string ⟨l.toArray⟩) W := by
  have h1 := run_convert_bytes_arg (P := Tryz.prog) W 89 5 Tryz.underlying89 Tryz.underlying5 g 0 l.length cap (l.map fun c => (c.toNat : Int)) (by simp) (fun i hi => by
    rw [Nat.zero_add, h i hi]
    simp [List.getD, hi]) 9 Tryz.underlying9
  have e : (l.map fun c => (c.toNat : Int)).map (fun n => UInt8.ofNat n.toNat) = l := by
    rw [List.map_map]
    exact (List.map_congr_left (fun c _ => by simp)).trans (List.map_id l)
  rw [h1, strOfNums, e]
/-- The first k bytes are small, the others as they were. -/
def FA (w : World) (g : Nat) (l : List UInt8) (k : Nat) : Prop := ∀ i, (h : i < l.length) → w.cell? ⟨g, i, none⟩ = some (.int .u8 ((if i < k then fld l[i] else l[i]).toNat : Int)) ∧ w.frozen? ⟨g, i, none⟩ = false
theorem FA.skip {w : World} {g k : Nat} {l : List UInt8} (h : FA w g l k) (hk : k < l.length) (hs : fld l[k] = l[k]) : FA w g l (k + 1) := by
  intro i hi
  refine ⟨?_, (h i hi).2⟩
  rw [(h i hi).1]
  by_cases e : i = k
  · subst e; simp [hs]
  · have : (i < k + 1) = (i < k) := by simp; omega
    simp only [this]
theorem FA.set {w : World} {g k : Nat} {l : List UInt8} (h : FA w g l k) (hk : k < l.length) {n : Int} (hn : n = ((fld l[k]).toNat : Int)) : FA (w.setCell ⟨g, k, none⟩ (.int .u8 n)) g l (k + 1) := by
  intro i hi
  by_cases e : i = k
  · subst e
    refine ⟨?_, by rw [World.frozen?_setCell]; exact (h i hi).2⟩
    rw [hn, World.cell?_setCell_same w _ _ (by rw [(h i hi).1])]
    simp
  · refine ⟨?_, by rw [World.frozen?_setCell]; exact (h i hi).2⟩
    rw [World.cell?_setCell_other w _ _ _ (by simp []), (h i hi).1]
    have : (i < k + 1) = (i < k) := by simp; omega
    simp only [this]

theorem FA_brow (w : World) (l : List UInt8) (cap : Nat) (t : TypeId) : FA (w.alloc (brow l cap t)) w.heap.size l 0 := by
  intro i hi
  refine ⟨by rw [BA_brow w l cap t i hi]; simp, ?_⟩
  unfold brow; rw [World.frozen?_alloc_mark]; simp [bytesRow]; omega
set_option maxHeartbeats 1000000 in
theorem folded_c (l : List UInt8) (hl : l.length ≤ 1099511627776) (w : World) :
    Calls Tryz.prog 162 #[.string ⟨l.toArray⟩] w fun e w' => e = .returned (.string ⟨(fold l).toArray⟩) ∧ Bl w w' := by
  have hcv := of_str
  have HCV := Lib.hid (conv_cap)
  go_enter Tryz.func162, Tryz.ntmps162
  go_wp2
  go_loopw [4, 5, 10] (fun _ _ i wr => ∃ k : Nat, k ≤ l.length ∧ i = .int .i64 k ∧ FA wr w.heap.size l k ∧ Below w.heap.size w wr) (fun _ _ i _ => l.length - (intOf i).toNat)
  case atStart => exact ⟨0, Nat.zero_le _, rfl, FA_brow w.drew l _ _, (Bl.refl _).drew.alloc _⟩
  case round =>
    obtain ⟨k, hk, rfl, hF, hbl⟩ := hrel
    by_cases hlt : k < l.length
    · have hc := u8_lt l[k]
      have hck := (hF k hlt).1
      simp only [Nat.lt_irrefl, if_false] at hck
      have hfk := (hF k hlt).2
      have hfn := fld_nat l[k]
      by_cases hu : 65 ≤ l[k].toNat ∧ l[k].toNat ≤ 90
      · rw [if_pos hu] at hfn
        have HU := Lib.hid hfn
        obtain ⟨u1, u2⟩ := hu
        have u1' : (65 : Int) ≤ (l[k].toNat : Int) := by omega
        have u2' : (l[k].toNat : Int) ≤ 90 := by omega
        clear hfn
        go_wp2
        go_roundw
        case rel => exact ⟨k + 1, by omega, by go_num, hF.set hlt (by rw [HU.out]; omega), Below.setCell hbl (Nat.le_refl _) _⟩
        case measure => simp [intOf]; omega
      · rw [if_neg hu] at hfn
        have HU := Lib.hid (UInt8.toNat_inj.1 hfn)
        have hu' : (decide ((65 : Int) ≤ (l[k].toNat : Int)) && decide ((l[k].toNat : Int) ≤ 90)) = false := by
          cases h : (decide ((65 : Int) ≤ (l[k].toNat : Int)) && decide ((l[k].toNat : Int) ≤ 90))
          · rfl
          · simp only [Bool.and_eq_true, decide_eq_true_eq] at h; omega
        have HU2 := Lib.hid hu
        clear hfn hu
        go_wp2
        all_goals first
          | (exfalso; have := HU2.out; omega)
          | (go_roundw
             case rel => exact ⟨k + 1, by omega, by go_num, hF.skip hlt HU.out, hbl⟩
             case measure => simp [intOf]; omega)
    · have hB : BA wr w.heap.size (fold l) := by
        intro i hi
        rw [fold_len] at hi
        rw [(hF i hi).1, if_pos (by omega)]
        simp [fold]
      have hcv2 := fun cap => conv_cap wr w.heap.size cap (fold l) hB
      rw [fold_len] at hcv2
      clear hcv
      go_wp2
      go_ret
      exact ⟨rfl, hbl⟩

def bcs (l : List UInt8) : List Value := l.map fun c => .int .u8 (c.toNat : Int)
/-- What was laid in a new block stands there. -/
theorem new_cells (w : World) (c : Array Value) (e : TypeId) : ∀ j u, c.toList[j]? = some u → (w.alloc (.cells c e)).cell? ((⟨w.heap.size, 0, none⟩ : Addr).add j) = some u := by
  intro j u h
  have hadd : (⟨w.heap.size, 0, none⟩ : Addr).add j = ⟨w.heap.size, j, none⟩ := by unfold Addr.add; split <;> simp_all
  rw [hadd]
  simpa using h
theorem conv_own (W : World) (base : Nat) (v : Value) (l : List UInt8) (h : W.ownsRow base 5 1 v l.length (bcs l)) : (convert 89 9 v).run Tryz.prog W = .ok (.string ⟨l.toArray⟩) W := by
  rcases h.2 with ⟨rfl, h0⟩ | ⟨g, cap, cur, rfl, -, -, -⟩
  · obtain rfl := List.eq_nil_of_length_eq_zero h0
    have := run_convert_bytes_nil (P := Tryz.prog) W 89 5 Tryz.underlying89 Tryz.underlying5 0 0
    exact this _ Tryz.underlying9
  · refine conv_cap W g cap l (fun i hi => ?_)
    have := h.cells (g := g) rfl i (.int .u8 (l[i].toNat : Int)) (by simp [bcs, hi])
    by_cases e : i = 0
    · subst e; simpa [Addr.add] using this
    · simpa [Addr.add, e] using this
theorem Tryz.infoU8 : (Tryz.prog.info? 5).map (fun i => (i.zero, i.size, i.bytes)) = some (some (.int .u8 0), 1, 1) := by kernel_rfl
end Go.Proofs.YthnpljkekhieiaaGreatDoor

namespace Go.Proofs.YthnpljkekhieiaaGreatDoor
open Go.RowKit

theorem cf_v2 : ∀ (args : Array Value) (W : World), Sem.run Tryz.prog (callFunc 189 args) W = .ok (.enter 189 args) W := by
  intro args W
  simp [callFunc, go_sem, Tryz.func189, Tryz.f189]
theorem clo_v2 (c Q : UInt8) (q : Nat) (w : World) (hq : w.cell? ⟨q, 0, none⟩ = some (.int .u8 (Q.toNat : Int))) :
    Calls Tryz.prog 189 #[.int .u8 (c.toNat : Int), .pointer (some ⟨q, 0, none⟩)] w fun e w' => e = .returned (.bool (c != Q)) ∧ w = w' := by
  go_enter Tryz.func189, Tryz.ntmps189
  go_wp2
  go_ret
  refine ⟨ret_bool ?_, rfl⟩
  rw [Bool.eq_iff_iff]
  simp only [bne_iff_ne, ne_eq]
  constructor
  · intro h e; exact h (by rw [e])
  · intro h e; exact h (UInt8.toNat_inj.1 (by omega))
theorem do_v2 (Q : UInt8) (q : Nat) : Do 189 #[.pointer (some ⟨q, 0, none⟩)] (· != Q) (fun W => W.cell? ⟨q, 0, none⟩ = some (.int .u8 (Q.toNat : Int))) :=
  ⟨cf_v2, fun c W h => (clo_v2 c Q q W h).mono fun _ _ ⟨h, hw⟩ => ⟨h, hw ▸ Qt.refl _⟩, fun W W' h hq => by obtain ⟨n, rfl⟩ := hq; exact h⟩
theorem hd_isq (q : UInt8) (r : List UInt8) : (hd isq (q :: r) = true) ↔ (q = 34 ∨ q = 39) := by
  have h1 : q.toNat = 34 ↔ q = 34 := ⟨fun h => UInt8.toNat_inj.1 h, fun h => by rw [h]; rfl⟩
  have h2 : q.toNat = 39 ↔ q = 39 := ⟨fun h => UInt8.toNat_inj.1 h, fun h => by rw [h]; rfl⟩
  simp [hd, isq, h1, h2]
theorem alloc_gb (w : World) (o : Obj) (b : Option Nat) : w.grownBy (w.alloc o) b := World.grownBy_alloc w o b

set_option maxHeartbeats 1000000 in
theorem value_plain (b : Nat) (s t x : List UInt8) (v : Value) (w : World) (hR : Rr w b s t x v) (hs : s.length ≤ 1099511627776) (hq : hd isq (t.dropWhile wht) = false) :
    Calls Tryz.prog 180 #[.pointer (some ⟨b, 0, none⟩)] w fun e w' => e = .returned (.string ⟨((t.dropWhile wht).takeWhile vch).toArray⟩) ∧ Rr w' b s ((t.dropWhile wht).dropWhile vch) x v ∧ w.grownBy w' (some b) := by
  obtain ⟨t1, ht1⟩ : ∃ t1, t1 = t.dropWhile wht := ⟨_, rfl⟩
  have P1 := Lib.hid (pass_r _ wht do_white b s t x v w hR hs)
  have HH := Lib.hid (fun W h => here_r _ isq do_v1 b s t1 x v W h hs)
  have P2 := Lib.hid (fun W h => pass_r _ vch do_v3 b s t1 x v W h hs)
  rw [← ht1] at hq P1 ⊢
  rw [hq] at HH
  clear ht1 hq hR
  go_enter Tryz.func180, Tryz.ntmps180
  go_wp2_with (first | (go_at_call 145; (with_reducible refine P1.out.mono ?_); clear P1; rintro e w1 ⟨rfl, hR1, hg1⟩) | (go_at_call 160; (with_reducible refine (HH.out _ hR1).mono ?_); rintro e w2 ⟨rfl, hq2⟩; have hR2 := hR1.of_bl hq2.bl; have hg2 := gb_trans hg1 (gb_qt (b := some b) hq2)) | (go_at_call 145; (with_reducible refine (P2.out _ hR2).mono ?_); rintro e w3 ⟨rfl, hR3, hg3⟩))
  go_ret
  exact ⟨rfl, hR3, gb_trans hg2 hg3⟩

set_option maxHeartbeats 2000000 in
theorem value_quoted (b : Nat) (s t r u x : List UInt8) (q z : UInt8) (v : Value) (w : World) (hR : Rr w b s t x v) (hs : s.length ≤ 1099511627776) (ht : t.dropWhile wht = q :: r) (hq : hd isq (q :: r) = true) (hu : r.dropWhile (· != q) = z :: u) :
    Calls Tryz.prog 180 #[.pointer (some ⟨b, 0, none⟩)] w fun e w' => e = .returned (.string ⟨(r.takeWhile (· != q)).toArray⟩) ∧ Rr w' b s u x v ∧ w.grownBy w' (some b) := by
  have P1 := Lib.hid (pass_r _ wht do_white b s t x v w hR hs)
  have HH := Lib.hid (fun W h => here_r _ isq do_v1 b s (q :: r) x v W h hs)
  have N1 := Lib.hid (fun W h => need_r b s q r x v W h hs)
  have P2 := Lib.hid (fun (n : Nat) W h1 (hne : n ≠ b) h => pass_r0 _ _ _ _ (do_v2 q n) b s r x v W h1 (fun W u h => by rw [World.cell?_setCell_other _ _ _ _ (by simp [])]; exact h) h hs)
  have N2 := Lib.hid (fun W h => need_r b s z u x v W h hs)
  rw [ht] at P1
  rw [hq] at HH
  rw [hu] at P2
  obtain ⟨a, ha⟩ : ∃ a, a = r.takeWhile (· != q) := ⟨_, rfl⟩
  rw [← ha] at P2 ⊢
  clear ht hq hR hu ha
  go_enter Tryz.func180, Tryz.ntmps180
  go_wp2_with (first | (go_at_call 145; (with_reducible refine P1.out.mono ?_); clear P1; rintro e w1 ⟨rfl, hR1, hg1⟩) | (go_at_call 160; (with_reducible refine (HH.out _ hR1).mono ?_); rintro e w2 ⟨rfl, hq2⟩; have hR2 := hR1.of_bl hq2.bl; have hg2 := gb_trans hg1 (gb_qt (b := some b) hq2)) | (go_at_call 177; (with_reducible refine (N1.out _ hR2).mono ?_); clear N1; rintro e w3 ⟨rfl, hR3, hg3⟩; have hg3' := gb_trans hg2 hg3; have hP := Lib.hid (P2.out w3.heap.size (w3.alloc (.cells #[.int .u8 (q.toNat : Int)] 5)) (by simp) (Nat.ne_of_gt hR3.rk.lt) (hR3.of_bl ((Bl.refl _).alloc _)))) | (go_at_call 145; (with_reducible refine hP.out.mono ?_); rintro e w4 ⟨rfl, hR4, hg4⟩; have hg4' := gb_trans (gb_trans hg3' (alloc_gb w3 _ (some b))) hg4) | (go_at_call 177; (with_reducible refine (N2.out _ hR4).mono ?_); rintro e w5 ⟨rfl, hR5, hg5⟩))
  go_ret
  exact ⟨rfl, hR5, gb_trans hg4' hg5⟩
set_option maxHeartbeats 2000000 in
theorem value_open (b : Nat) (s t r x : List UInt8) (q : UInt8) (v : Value) (w : World) (hR : Rr w b s t x v) (hs : s.length ≤ 1099511627776) (ht : t.dropWhile wht = q :: r) (hq : hd isq (q :: r) = true) (hu : r.dropWhile (· != q) = []) :
    Calls Tryz.prog 180 #[.pointer (some ⟨b, 0, none⟩)] w fun e w' => e = .panicked OPN ∧ (∃ t', Rr w' b s t' x v) ∧ w.grownBy w' (some b) := by
  have P1 := Lib.hid (pass_r _ wht do_white b s t x v w hR hs)
  have HH := Lib.hid (fun W h => here_r _ isq do_v1 b s (q :: r) x v W h hs)
  have N1 := Lib.hid (fun W h => need_r b s q r x v W h hs)
  have P2 := Lib.hid (fun (n : Nat) W h1 (hne : n ≠ b) h => pass_r0 _ _ _ _ (do_v2 q n) b s r x v W h1 (fun W u h => by rw [World.cell?_setCell_other _ _ _ _ (by simp [])]; exact h) h hs)
  have N2 := Lib.hid (fun W h => need_end b s x v W h)
  rw [ht] at P1
  rw [hq] at HH
  rw [hu] at P2
  obtain ⟨a, ha⟩ : ∃ a, a = r.takeWhile (· != q) := ⟨_, rfl⟩
  rw [← ha] at P2
  clear ht hq hR hu ha
  go_enter Tryz.func180, Tryz.ntmps180
  go_wp2_with (first | (go_at_call 145; (with_reducible refine P1.out.mono ?_); clear P1; rintro e w1 ⟨rfl, hR1, hg1⟩) | (go_at_call 160; (with_reducible refine (HH.out _ hR1).mono ?_); rintro e w2 ⟨rfl, hq2⟩; have hR2 := hR1.of_bl hq2.bl; have hg2 := gb_trans hg1 (gb_qt (b := some b) hq2)) | (go_at_call 177; (with_reducible refine (N1.out _ hR2).mono ?_); clear N1; rintro e w3 ⟨rfl, hR3, hg3⟩; have hg3' := gb_trans hg2 hg3; have hP := Lib.hid (P2.out w3.heap.size (w3.alloc (.cells #[.int .u8 (q.toNat : Int)] 5)) (by simp) (Nat.ne_of_gt hR3.rk.lt) (hR3.of_bl ((Bl.refl _).alloc _)))) | (go_at_call 145; (with_reducible refine hP.out.mono ?_); rintro e w4 ⟨rfl, hR4, hg4⟩; have hg4' := gb_trans (gb_trans hg3' (alloc_gb w3 _ (some b))) hg4) | (go_at_call 177; (with_reducible refine (N2.out _ hR4).mono ?_); rintro e w5 ⟨rfl, hq5⟩))
  exact ⟨rfl, rfl, ⟨_, hR4.of_bl hq5.bl⟩, gb_trans hg4' (gb_qt hq5)⟩

theorem value_yes (b : Nat) (s t a u x : List UInt8) (v : Value) (w : World) (hR : Rr w b s t x v) (hs : s.length ≤ 1099511627776) (hv : valOf t = some (a, u)) :
    Calls Tryz.prog 180 #[.pointer (some ⟨b, 0, none⟩)] w fun e w' => e = .returned (.string ⟨a.toArray⟩) ∧ Rr w' b s u x v ∧ w.grownBy w' (some b) := by
  have hp := value_plain b s t x v w hR hs
  unfold valOf at hv
  split at hv
  · rename_i e
    simp only [Option.some.injEq, Prod.mk.injEq] at hv; obtain ⟨rfl, rfl⟩ := hv
    rw [e] at hp
    exact hp rfl
  · rename_i q r e
    split at hv
    · rename_i hq
      have hq' := (hd_isq q r).2 hq
      split at hv
      · cases hv
      · rename_i z u' e2
        simp only [Option.some.injEq, Prod.mk.injEq] at hv; obtain ⟨rfl, rfl⟩ := hv
        exact value_quoted b s t r u' x q z v w hR hs e hq' e2
    · rename_i hq
      have hq' : hd isq (q :: r) = false := by
        rw [← hd_isq q r] at hq; simpa using hq
      simp only [Option.some.injEq, Prod.mk.injEq] at hv; obtain ⟨rfl, rfl⟩ := hv
      rw [e] at hp
      exact hp hq'
theorem value_no (b : Nat) (s t x : List UInt8) (v : Value) (w : World) (hR : Rr w b s t x v) (hs : s.length ≤ 1099511627776) (hv : valOf t = none) :
    Calls Tryz.prog 180 #[.pointer (some ⟨b, 0, none⟩)] w fun e w' => e = .panicked OPN ∧ (∃ t', Rr w' b s t' x v) ∧ w.grownBy w' (some b) := by
  unfold valOf at hv
  split at hv
  · cases hv
  · rename_i q r e
    split at hv
    · rename_i hq
      have hq' := (hd_isq q r).2 hq
      split at hv
      · rename_i e2
        exact value_open b s t r x q v w hR hs e hq' e2
      · cases hv
    · cases hv
end Go.Proofs.YthnpljkekhieiaaGreatDoor

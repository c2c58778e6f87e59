/- Tokens: the reader's steps, said by what is left of the text; begins, letterAt, to, Folded. -/
import Derived.Test.YtoaecehkmoehjaaGreatDoorTokD
namespace Go.Proofs.YtoaecehkmoehjaaGreatDoor
open Go.RowKit

/-- The reader, by what is left. -/
structure Rr (w : World) (b : Nat) (s t x : List UInt8) (v : Value) : Prop where
  rk : Rk w b s (s.length - t.length) x v
  sf : t <:+ s
theorem sfx_drop {s t : List UInt8} (h : t <:+ s) : s.drop (s.length - t.length) = t := by
  obtain ⟨p, rfl⟩ := h
  simp
theorem Rr.of_bl {w w' : World} {b : Nat} {s t x : List UInt8} {v : Value} (h : Rr w b s t x v) (hb : Bl w w') : Rr w' b s t x v := ⟨h.rk.of_bl hb, h.sf⟩
theorem Rr.len {w : World} {b : Nat} {s t x : List UInt8} {v : Value} (h : Rr w b s t x v) : t.length ≤ s.length := h.sf.length_le

theorem here_r (N : Nat) (p : UInt8 → Bool) (hD : Do N #[] p Tr) (b : Nat) (s t x : List UInt8) (v : Value) (w : World) (hR : Rr w b s t x v) (hs : s.length ≤ 1099511627776) :
    Calls Tryz.prog 79 #[.pointer (some ⟨b, 0, none⟩), .func (.func N) #[] #[]] w fun e w' => e = .returned (.bool (hd p t)) ∧ Qt w w' := by
  have := here_c N #[] p Tr hD b _ s x v w trivial hR.rk hs
  rwa [sfx_drop hR.sf] at this
theorem pass_r0 (N : Nat) (cap : Array Value) (p : UInt8 → Bool) (I : World → Prop) (hD : Do N cap p I) (b : Nat) (s t x : List UInt8) (v : Value) (w : World) (hI : I w) (hI2 : ∀ W u, I W → I (W.setCell ⟨b, 1, none⟩ u)) (hR : Rr w b s t x v) (hs : s.length ≤ 1099511627776) :
    Calls Tryz.prog 64 #[.pointer (some ⟨b, 0, none⟩), .func (.func N) #[] cap] w fun e w' => e = .returned (.string ⟨(t.takeWhile p).toArray⟩) ∧
      Rr w' b s (t.dropWhile p) x v ∧ w.grownBy w' (some b) := by
  refine (pass_c N cap p I hD b _ s x v w hI hI2 hR.rk (Nat.sub_le _ _) hs).mono ?_
  rintro e w' ⟨rfl, h1, h2, -⟩
  rw [sfx_drop hR.sf] at h1 ⊢
  have hl := hR.len
  have e : s.length - t.length + (t.takeWhile p).length = s.length - (t.dropWhile p).length := by
    have := congrArg List.length (List.takeWhile_append_dropWhile (p := p) (l := t))
    rw [List.length_append] at this; omega
  rw [e] at h1
  exact ⟨rfl, ⟨h1, (List.dropWhile_suffix p).trans hR.sf⟩, h2⟩
theorem pass_r (N : Nat) (p : UInt8 → Bool) (hD : Do N #[] p Tr) (b : Nat) (s t x : List UInt8) (v : Value) (w : World) (hR : Rr w b s t x v) (hs : s.length ≤ 1099511627776) :
    Calls Tryz.prog 64 #[.pointer (some ⟨b, 0, none⟩), .func (.func N) #[] #[]] w fun e w' => e = .returned (.string ⟨(t.takeWhile p).toArray⟩) ∧
      Rr w' b s (t.dropWhile p) x v ∧ w.grownBy w' (some b) := pass_r0 N #[] p Tr hD b s t x v w trivial (Tr2 b) hR hs
theorem need_end (b : Nat) (s x : List UInt8) (v : Value) (w : World) (hR : Rr w b s [] x v) :
    Calls Tryz.prog 97 #[.pointer (some ⟨b, 0, none⟩)] w fun e w' => e = .panicked OPN ∧ Qt w w' := need_no b s x v w (by simpa using hR.rk)
theorem need_r (b : Nat) (s : List UInt8) (c : UInt8) (t x : List UInt8) (v : Value) (w : World) (hR : Rr w b s (c :: t) x v) (hs : s.length ≤ 1099511627776) :
    Calls Tryz.prog 97 #[.pointer (some ⟨b, 0, none⟩)] w fun e w' => e = .returned (.int .u8 (c.toNat : Int)) ∧ Rr w' b s t x v ∧ w.grownBy w' (some b) := by
  have hl := hR.len
  simp only [List.length_cons] at hl
  have hd := sfx_drop hR.sf
  rw [List.length_cons] at hd
  have hk : s.length - (t.length + 1) < s.length := by omega
  have hc : s[s.length - (t.length + 1)] = c := by
    have := List.drop_eq_getElem_cons hk
    rw [hd] at this
    exact (List.cons.inj this).1.symm
  refine (need_yes b _ s x v w hR.rk hk hs).mono ?_
  rintro e w' ⟨rfl, h1, h2⟩
  refine ⟨by simp only [List.length_cons, hc], ⟨?_, (List.suffix_cons c t).trans hR.sf⟩, h2⟩
  rw [show s.length - t.length = s.length - (c :: t).length + 1 by simp only [List.length_cons]; omega]
  exact h1

set_option maxHeartbeats 1000000 in
theorem begins_r (p : List UInt8) (b : Nat) (s t x : List UInt8) (v : Value) (w : World) (hR : Rr w b s t x v) (hs : s.length ≤ 1099511627776) :
    Calls Tryz.prog 63 #[.pointer (some ⟨b, 0, none⟩), .string ⟨p.toArray⟩] w fun e w' => e = .returned (.bool (pre p t)) ∧ Qt w w' := by
  obtain ⟨c0, c1, c2, c3, f0, f1, f2, f3⟩ := hR.rk.cells
  have hd := sfx_drop hR.sf
  have hk : s.length - t.length ≤ s.length := Nat.sub_le _ _
  obtain ⟨k, hk'⟩ : ∃ k, k = s.length - t.length := ⟨_, rfl⟩
  rw [← hk'] at c1 hd hk
  have HD := Lib.hid hd
  clear hR hk' hd
  go_enter Tryz.func63, Tryz.ntmps63
  go_wp2_with (go_quiet (first | (go_at_call 78; exact quiet_eq (hasPrefix_c (s.drop k) p _))))
  go_ret
  exact ⟨by rw [← HD.out]; rfl, (Qt.refl _).drewN _⟩

set_option maxHeartbeats 1000000 in
theorem letterAt_r (m : Nat) (hm : m ≤ 2) (b : Nat) (s t x : List UInt8) (v : Value) (w : World) (hR : Rr w b s t x v) (hs : s.length ≤ 1099511627776) :
    Calls Tryz.prog 66 #[.pointer (some ⟨b, 0, none⟩), .int .i64 (m : Int)] w fun e w' => e = .returned (.bool (hd ltr (t.drop m))) ∧ Qt w w' := by
  obtain ⟨c0, c1, c2, c3, f0, f1, f2, f3⟩ := hR.rk.cells
  have hd := sfx_drop hR.sf
  have hk : s.length - t.length ≤ s.length := Nat.sub_le _ _
  obtain ⟨k, hk'⟩ : ∃ k, k = s.length - t.length := ⟨_, rfl⟩
  rw [← hk'] at c1 hd hk
  rw [← hd, List.drop_drop]
  clear hR hk' hd
  by_cases hlt : k + m < s.length
  · have hlt' : (k : Int) + (m : Int) < (s.length : Int) := by omega
    have H1 := Lib.hid (hd_drop ltr s (k + m) hlt)
    have hn : ((k : Int) + (m : Int)).toNat = k + m := by omega
    have h0 : (0 : Int) ≤ (k : Int) + (m : Int) := by omega
    go_enter Tryz.func66, Tryz.ntmps66
    go_wp2_with (go_quiet (first | (go_at_call 80; exact quiet_eq (letter_c s[k + m] _))))
    go_ret
    exact ⟨by rw [H1.out]; rfl, (Qt.refl _).drewN _⟩
  · have hlt' : decide ((k : Int) + (m : Int) < (s.length : Int)) = false := by simp; omega
    have H1 := Lib.hid (hd_end ltr s (k + m) (by omega))
    go_enter Tryz.func66, Tryz.ntmps66
    go_wp2_with (go_quiet (fail))
    go_ret
    exact ⟨by rw [H1.out]; rfl, (Qt.refl _).drewN _⟩

/-- The variable bytealg.MaxLen holds some number. -/
def ML (w : World) : Prop := ∃ m, 0 < w.heap.size ∧ w.cell? ⟨0, 0, none⟩ = some (.int .i64 m)
theorem ML.of_bl {w w' : World} (h : ML w) (hb : Bl w w') : ML w' := by
  obtain ⟨m, h1, h2⟩ := h
  exact ⟨m, Nat.lt_of_lt_of_le h1 (Below.size hb), (hb.cells.1 _ 0 h1).trans h2⟩
theorem ML.of_gb {w w' : World} {b : Nat} (h : ML w) (hg : w.grownBy w' (some b)) (hb : 0 < b) : ML w' := by
  obtain ⟨m, h1, h2⟩ := h
  exact ⟨m, Nat.lt_of_lt_of_le h1 hg.size, hg.cell h2 (by simp; omega)⟩
theorem find_c (l p : List UInt8) (hl : l.length ≤ 4294967280) (w : World) (hM : ML w) :
    Calls Tryz.prog 85 #[.string ⟨l.toArray⟩, .string ⟨p.toArray⟩] w fun e w' => e = .returned (.int .i64 (Lib.index l p)) ∧ w = w' := by
  obtain ⟨m, h1, h2⟩ := hM
  exact (Tryz.strings_Index ⟨l.toArray⟩ ⟨p.toArray⟩ m w (by simp [ByteArray.size]; omega) h2).mono fun _ _ ⟨he, hw⟩ => ⟨he, hw.symm⟩
theorem cutS_index (p : List UInt8) (hp : p ≠ []) : ∀ l : List UInt8, (Lib.index l p = -1 ∧ cutS p l = none) ∨ (∃ i : Nat, Lib.index l p = i ∧ i + p.length ≤ l.length ∧ cutS p l = some (l.drop (i + p.length))) := by
  intro l
  induction l with
  | nil =>
    left
    cases p with
    | nil => exact absurd rfl hp
    | cons a p => exact ⟨rfl, rfl⟩
  | cons c l ih =>
    by_cases h : pre p (c :: l) = true
    · right
      refine ⟨0, ?_, by have := pre_len h; omega, ?_⟩
      · unfold Lib.index; rw [show p.isPrefixOf (c :: l) = true from h]; rfl
      · unfold cutS; rw [if_pos h]; simp
    · have h' : p.isPrefixOf (c :: l) = false := Bool.eq_false_iff.2 h
      rcases ih with ⟨h1, h2⟩ | ⟨i, h1, h2, h3⟩
      · left
        refine ⟨?_, ?_⟩
        · unfold Lib.index; rw [h', h1]; rfl
        · unfold cutS; rw [if_neg h, h2]
      · right
        refine ⟨i + 1, ?_, by simp only [List.length_cons]; omega, ?_⟩
        · unfold Lib.index; rw [h', h1]
          have : ((i : Int) == -1) = false := by rw [beq_eq_false_iff_ne]; omega
          simp [this]
        · unfold cutS; rw [if_neg h, h3, Nat.add_right_comm]; rfl

set_option maxHeartbeats 1000000 in
theorem to_no (p : List UInt8) (hp : p ≠ []) (hp2 : p.length ≤ 3) (m : Nat) (hm : m ≤ 2) (b : Nat) (s t x : List UInt8) (v : Value) (w : World) (hR : Rr w b s t x v) (hs : s.length ≤ 4294967280) (hM : ML w) (hc : cutS p (t.drop m) = none) :
    Calls Tryz.prog 68 #[.pointer (some ⟨b, 0, none⟩), .string ⟨p.toArray⟩, .int .i64 (m : Int)] w fun e w' => e = .panicked OPN ∧ Qt w w' := by
  obtain ⟨c0, c1, c2, c3, f0, f1, f2, f3⟩ := hR.rk.cells
  have hd := sfx_drop hR.sf
  have hk : s.length - t.length ≤ s.length := Nat.sub_le _ _
  obtain ⟨k, hk'⟩ : ∃ k, k = s.length - t.length := ⟨_, rfl⟩
  rw [← hk'] at c1 hd hk
  rw [← hd, List.drop_drop] at hc
  have hi : Lib.index (s.drop (k + m)) p = -1 := by
    rcases cutS_index p hp (s.drop (k + m)) with ⟨h1, _⟩ | ⟨i, _, _, h3⟩
    · exact h1
    · rw [hc] at h3; cases h3
  have hmin : min (s.length : Int) ((k : Int) + (m : Int)) = ((min s.length (k + m) : Nat) : Int) := by omega
  have hmd : s.drop (min s.length (k + m)) = s.drop (k + m) := by
    rcases Nat.le_total s.length (k + m) with h | h
    · rw [Nat.min_eq_left h, List.drop_eq_nil_of_le (Nat.le_refl _), List.drop_eq_nil_of_le h]
    · rw [Nat.min_eq_right h]
  have hml : min s.length (k + m) ≤ s.length := Nat.min_le_left _ _
  obtain ⟨j, hj⟩ : ∃ j, j = min s.length (k + m) := ⟨_, rfl⟩
  rw [← hj] at hmin hmd hml
  have FC := Lib.hid (fun n : Nat => find_c (s.drop j) p (by simp; omega) (w.drewN n) (hM.of_bl ((Bl.refl _).drewN n)))
  rw [hmd, hi] at FC
  rw [← hmd] at FC
  clear hR hk' hd hc hi hmd hj
  go_enter Tryz.func68, Tryz.ntmps68
  go_wp2_with (go_quiet (first | (go_at_call 85; exact quiet_eq (FC.out _))))
  exact ⟨rfl, rfl, (Qt.refl _).drewN _⟩
set_option maxHeartbeats 1000000 in
theorem to_yes (p : List UInt8) (hp : p ≠ []) (hp2 : p.length ≤ 3) (m : Nat) (hm : m ≤ 2) (b : Nat) (s t x u : List UInt8) (v : Value) (w : World) (hR : Rr w b s t x v) (hs : s.length ≤ 4294967280) (hM : ML w) (hc : cutS p (t.drop m) = some u) :
    Calls Tryz.prog 68 #[.pointer (some ⟨b, 0, none⟩), .string ⟨p.toArray⟩, .int .i64 (m : Int)] w fun e w' => e = .returned (.tuple #[]) ∧ Rr w' b s u x v ∧ w.grownBy w' (some b) := by
  obtain ⟨c0, c1, c2, c3, f0, f1, f2, f3⟩ := hR.rk.cells
  have hd := sfx_drop hR.sf
  have hk : s.length - t.length ≤ s.length := Nat.sub_le _ _
  have hRk := hR.rk
  obtain ⟨k, hk'⟩ : ∃ k, k = s.length - t.length := ⟨_, rfl⟩
  rw [← hk'] at c1 hd hk hRk
  rw [← hd, List.drop_drop] at hc
  obtain ⟨i, hi, hil, hu⟩ : ∃ i : Nat, Lib.index (s.drop (k + m)) p = i ∧ i + p.length ≤ (s.drop (k + m)).length ∧ u = s.drop (k + m + (i + p.length)) := by
    rcases cutS_index p hp (s.drop (k + m)) with ⟨_, h1⟩ | ⟨i, h1, h2, h3⟩
    · rw [hc] at h1; cases h1
    · rw [hc, List.drop_drop] at h3; exact ⟨i, h1, h2, Option.some.inj h3⟩
  rw [List.length_drop] at hil
  have hp0 : 0 < p.length := List.length_pos_iff.2 hp
  have hkm : k + m ≤ s.length := by omega
  have hmin : min (s.length : Int) ((k : Int) + (m : Int)) = ((k + m : Nat) : Int) := by omega
  have FC := Lib.hid (fun n : Nat => find_c (s.drop (k + m)) p (by simp; omega) (w.drewN n) (hM.of_bl ((Bl.refl _).drewN n)))
  rw [hi] at FC
  have hul : k + m + (i + p.length) = s.length - u.length := by rw [hu, List.length_drop]; omega
  have HU := Lib.hid hul
  have HS := Lib.hid (show u <:+ s by rw [hu]; exact List.drop_suffix _ _)
  have i0 : ¬ (i : Int) < 0 := by omega
  have hib : k + m + i + p.length ≤ s.length := by omega
  clear hR hk' hd hc hi hu hul
  go_enter Tryz.func68, Tryz.ntmps68
  go_wp2_with (go_quiet (first | (go_at_call 85; exact quiet_eq (FC.out _))))
  go_end0
  exact ⟨rfl, ⟨(hRk.of_bl ((Bl.refl _).drewN _)).seti (by rw [← HU.out]; omega), HS.out⟩, gb_set (gb_drewN (gb_refl _ _) _) _ _⟩
end Go.Proofs.YtoaecehkmoehjaaGreatDoor

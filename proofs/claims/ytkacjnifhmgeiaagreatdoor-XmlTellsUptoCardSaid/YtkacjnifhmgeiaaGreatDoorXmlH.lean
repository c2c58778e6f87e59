/- Documents: plain text; a text behind nodes. -/
import Derived.Test.YtkacjnifhmgeiaaGreatDoorXmlC
import Derived.Test.YtkacjnifhmgeiaaGreatDoorGrpK
namespace Go.Proofs.YtkacjnifhmgeiaaGreatDoor
open Go.RowKit

/-- A region's walk wants a goal to go on with: where a callee panics, an idle one. -/
theorem ghost {P X : Prop} (hp : P) (_ : Hid False → X) : P := hp
theorem pl_here {t : List UInt8} (h : t.dropWhile (· != 60) ≠ []) : (bef 60 t).length < t.length ∧ t.drop (bef 60 t).length = t.dropWhile (· != 60) ∧ t.take (bef 60 t).length = bef 60 t ∧ Lib.indexByte t 60 = (bef 60 t).length := by
  have e := List.takeWhile_append_dropWhile (p := (· != (60 : UInt8))) (l := t)
  have hl := congrArg List.length e
  rw [List.length_append] at hl
  have hp := List.length_pos_iff.2 h
  refine ⟨by unfold bef; omega, tw_drop _ _, tw_take _ _, ?_⟩
  rcases ixb 60 t with ⟨_, h2, _⟩ | ⟨_, _, h3, _⟩
  · exact h2
  · have := congrArg List.length h3
    unfold bef at this; omega
theorem pl_none {t : List UInt8} (h : t.dropWhile (· != 60) = []) : Lib.indexByte t 60 = -1 := by
  rcases ixb 60 t with ⟨_, _, h3⟩ | ⟨_, h2, _⟩
  · have e := List.takeWhile_append_dropWhile (p := (· != (60 : UInt8))) (l := t)
    have hl := congrArg List.length e
    have h3l := congrArg List.length h3
    rw [h] at hl
    simp only [List.length_append, List.length_nil, List.length_cons] at hl h3l
    unfold bef at h3l; omega
  · exact h2
theorem indexB_c (l : List UInt8) (w : World) : Calls Tryz.prog 97 #[.string ⟨l.toArray⟩, .int .u8 60] w fun e w' => e = .returned (.int .i64 (Lib.indexByte l 60)) ∧ w = w' :=
  (Tryz.strings_IndexByte ⟨l.toArray⟩ 60 w).mono fun _ _ ⟨he, hw⟩ => ⟨he, hw.symm⟩
set_option maxHeartbeats 1000000 in
theorem plain_no (b : Nat) (s t : List UInt8) (w : World) (hR : Xr w b s t) (hs : s.length ≤ 1073741824) (hE : ES w) (h : t.dropWhile (· != 60) = []) :
    Calls Tryz.prog 84 #[.pointer (some ⟨b, 0, none⟩)] w fun e w' => e = .panicked (ERN 1) ∧ Bl w w' := by
  obtain ⟨c0, c1, f0, f1⟩ := hR.rk.cells
  have hd := sfx_drop hR.sf
  have hl := hR.len
  have hk : s.length - t.length ≤ s.length := Nat.sub_le _ _
  obtain ⟨k, hk'⟩ : ∃ k, k = s.length - t.length := ⟨_, rfl⟩
  rw [← hk'] at c1 hd hk
  have IC := Lib.hid (fun n : Nat => indexB_c (s.drop k) (w.drewN n))
  rw [hd, pl_none h] at IC
  rw [← hd] at IC
  have hdl : (s.drop k).length = s.length - k := List.length_drop
  cases hT : (Tk t).2 with
  | false =>
    have TC := Lib.hid (fun W h => told_no (s.drop k) (by omega) W h (by rw [hd]; exact hT))
    clear hR hk' hd h hT hdl
    go_enter Tryz.func84, Tryz.ntmps84
    go_wp2_with (go_quiet (first | (go_at_call 97; exact quiet_eq (IC.out _))))
    go_region_with (go_at_call 81; (with_reducible refine (TC.out _ ?_).mono ?_); (exact hE.of_bl (by repeat (first | exact Bl.refl _ | refine Bl.drew ?_ | refine Bl.drewN ?_ _))); rintro e w2 ⟨rfl, hb2⟩; rename_i K hK; refine ghost (X := K ⟨#[], []⟩ w2) (by go_wp2; exact ⟨rfl, rfl, Bl.trans (by repeat (first | exact Bl.refl _ | refine Bl.drew ?_ | refine Bl.drewN ?_ _)) hb2⟩) (fun hf => ?_))
    all_goals exact hf.out.elim
  | true =>
    have TC := Lib.hid (fun W h => told_yes (s.drop k) (by omega) W h (by rw [hd]; exact hT))
    clear hR hk' hd h hT hdl
    go_enter Tryz.func84, Tryz.ntmps84
    go_wp2_with (go_quiet (first | (go_at_call 97; exact quiet_eq (IC.out _))))
    go_region_with (go_at_call 81; (with_reducible refine (TC.out _ ?_).mono ?_); (exact hE.of_bl (by repeat (first | exact Bl.refl _ | refine Bl.drew ?_ | refine Bl.drewN ?_ _))); rintro e w2 ⟨rfl, hb2⟩)
    all_goals
      go_wp2_with (go_at_call 37; (with_reducible refine (fail_c 1 _).mono ?_); rintro e w3 ⟨rfl, rfl⟩)
      exact ⟨rfl, rfl, Bl.trans (by repeat (first | exact Bl.refl _ | refine Bl.drew ?_ | refine Bl.drewN ?_ _)) hb2⟩
set_option maxHeartbeats 1000000 in
theorem plain_yes (b : Nat) (s t : List UInt8) (w : World) (hR : Xr w b s t) (hs : s.length ≤ 1073741824) (h : t.dropWhile (· != 60) ≠ []) :
    Calls Tryz.prog 84 #[.pointer (some ⟨b, 0, none⟩)] w fun e w' => e = .returned (.string ⟨(t.takeWhile (· != 60)).toArray⟩) ∧ Xr w' b s (t.dropWhile (· != 60)) ∧ w.grownBy w' (some b) := by
  obtain ⟨c0, c1, f0, f1⟩ := hR.rk.cells
  have hd := sfx_drop hR.sf
  have hl := hR.len
  have hk : s.length - t.length ≤ s.length := Nat.sub_le _ _
  have HR := Lib.hid hR
  obtain ⟨p1, p2, p3, p4⟩ := pl_here h
  obtain ⟨k, hk'⟩ : ∃ k, k = s.length - t.length := ⟨_, rfl⟩
  rw [← hk'] at c1 hd hk
  have HK := Lib.hid hk'
  have HP3 := Lib.hid (show (s.drop k).take (bef 60 t).length = t.takeWhile (· != 60) by rw [hd]; exact p3)
  have HP2 := Lib.hid p2
  have hkl : k + (bef 60 t).length ≤ s.length := by omega
  have hin : ¬ (((bef 60 t).length : Nat) : Int) < 0 := by omega
  obtain ⟨i, hi⟩ : ∃ i, i = (bef 60 t).length := ⟨_, rfl⟩
  rw [← hi] at p4 HP3 HP2 hkl hin p1
  have IC := Lib.hid (fun n : Nat => indexB_c (s.drop k) (w.drewN n))
  rw [hd, p4] at IC
  rw [← hd] at IC
  clear hR hk' hd h p2 p3 p4 hi
  go_enter Tryz.func84, Tryz.ntmps84
  go_wp2_with (go_quiet (first | (go_at_call 97; exact quiet_eq (IC.out _))))
  go_ret
  refine ⟨?_, ?_, gb_set (gb_drewN (gb_refl _ _) _) _ _⟩
  · show Ending.returned (.string ⟨(List.take i (List.drop k s)).toArray⟩) = _
    rw [HP3.out]
  · rw [← HP2.out]
    exact (HR.out.of_bl ((Bl.refl _).drewN _)).adv (Nat.le_of_lt p1) (by rw [← HK.out]; omega)

set_option maxRecDepth 100000 in
set_option maxHeartbeats 4000000 in
theorem textX_c (base : Nat) (P : Nat → Prop) (x : List Nd) (ents : List Nent) (v : Value) (t : List UInt8) (w : World) (H : NdO w base P v x ents) (hP : ∀ k, P k → k < w.heap.size) (hbase : base ≤ w.heap.size) (hx : x.length ≤ 10000000) (ht : t.length ≤ 10000000000)
    (hlast : ∀ c ∈ x, c.x.length ≤ 10000000000) :
    Calls Tryz.prog 83 #[v, .string ⟨t.toArray⟩] w fun e w' => ∃ v' ents', e = .returned v' ∧ NdO w' base P v' (addT x t) ents' ∧ Below base w w' := by
  obtain ⟨i0, hi, hz0, hz1, hz2⟩ := info_parts Tryz.infoNod
  obtain ⟨ax, cx, hv, hxc⟩ := own_shp H.row
  have hel := H.len
  by_cases ht0 : t = []
  · subst ht0
    have HH := Lib.hid H
    clear H
    go_enter Tryz.func83, Tryz.ntmps83
    go_wp2
    go_ret
    exact ⟨_, ents, rfl, by unfold addT; rw [if_pos rfl]; exact HH.out, Below.refl _ _⟩
  have hte : t.isEmpty = false := by cases t <;> simp_all
  have HAT := Lib.hid (show addT x t = pt x (.mk [] [] t []) by unfold addT; rw [if_neg ht0])
  clear ht0
  rcases List.eq_nil_or_concat x with rfl | ⟨o, c, hxe⟩
  · have h0 : ents = [] := List.eq_nil_of_length_eq_zero (by simpa using hel)
    subst h0
    subst hv
    have HH := Lib.hid H
    clear H
    go_enter Tryz.func83, Tryz.ntmps83
    go_wp2_with (at_builtin; refine Hid.out ?_)
    refine Lib.hid ?_
    refine wpList_append_gr _ rfl _ _ 23 rfl base 25 i0 (.agg #[.string ⟨#[]⟩, .slice none 0 0, .string ⟨#[]⟩, .slice none 0 0]) 4 80 Tryz.underlying23 hi hz0 hz1 hz2 rfl (by decide) (.slice ax 0 cx) 0 (ndV []) rfl (own_bl HH.out.row (by repeat (first | exact Bl.refl _ | refine Bl.drew ?_ | refine Bl.alloc ?_ _))) ⟨w.heap.size, 0, none⟩ 1 1 [.string ⟨#[]⟩, .slice none 0 0, .string ⟨t.toArray⟩, .slice none 0 0] rfl rfl (new_cells w #[.string ⟨#[]⟩, .slice none 0 0, .string ⟨t.toArray⟩, .slice none 0 0] _) (by simp [Value.oneCell']) (by decide) (by unfold maxLen; omega) (by omega) (by simp; omega) ?_
    intro v' wz hown hg
    obtain ⟨h1, h2⟩ := jt_more (.mk [] [] t []) HH.out hP hbase (by repeat (first | exact Bl.refl _ | refine Bl.drew ?_ | refine Bl.alloc ?_ _)) (AtP.nil _ _) (NdS.nil _ _) hown hg
    clear hown hg
    go_wp2
    go_ret
    exact ⟨_, _, rfl, by rw [HAT.out]; exact h1, h2⟩
  · rw [List.concat_eq_append] at hxe
    have hX1 : (0 : Int) < (x.length : Int) := by rw [hxe]; simp <;> omega
    rw [hel] at hv hxc
    subst hv
    obtain ⟨gx, rfl, x0, x1, x2, x3⟩ := H.lastc o c hxe
    have hi1 : (x.length : Int) - 1 = (o.length : Int) := by rw [hxe]; simp
    have hi2 : (o.length : Int) < (x.length : Int) := by omega
    have hcx := hlast c (by rw [hxe]; simp)
    have HH := Lib.hid H
    have HXE := Lib.hid hxe
    have HEL := Lib.hid hel
    by_cases hn : c.n = []
    · have hpt := Lib.hid (show pt x (.mk [] [] t []) = o ++ [.mk c.n c.a (c.x ++ t) c.k] by
        rw [hxe]; unfold pt; cases c with | mk n a y k => simp only [Nd.n] at hn; subst hn; simp [Nd.n, Nd.a, Nd.x, Nd.k])
      have hne : c.n.isEmpty = true := by simp [hn]
      obtain ⟨ents', hf⟩ := NdO.settext (l := o) (d := c) (by have h9 := H; rw [hxe] at h9; exact h9) (c.x ++ t)
      have HF := Lib.hid hf
      have hgx := (H.lt gx rfl).1
      have HB := Lib.hid (show Below base w (w.setCell ⟨gx, o.length * 4 + 2, none⟩ (.string ⟨(c.x ++ t).toArray⟩)) from Below.setCell (Below.refl _ _) hgx _)
      have hi3 : (0 : Int) ≤ (o.length : Int) := by omega
      clear H hxe hel hn hf
      go_enter Tryz.func83, Tryz.ntmps83
      go_wp2
      go_ret
      exact ⟨_, ents', rfl, by rw [HAT.out, hpt.out]; have h9 := HF.out; rw [← HXE.out] at h9; exact h9, HB.out⟩
    · have hpt := Lib.hid (show pt x (.mk [] [] t []) = x ++ [.mk [] [] t []] by
        rw [hxe]; unfold pt; cases c with | mk n a y k => cases n with | nil => exact absurd rfl hn | cons u n => simp)
      have hne : c.n.isEmpty = false := by cases e : c.n <;> simp_all
      have hi3 : (0 : Int) ≤ (o.length : Int) := by omega
      clear H hxe hel hn
      go_enter Tryz.func83, Tryz.ntmps83
      go_wp2_with (at_builtin; refine Hid.out ?_)
      refine Lib.hid ?_
      refine wpList_append_gr _ rfl _ _ 23 rfl base 25 i0 (.agg #[.string ⟨#[]⟩, .slice none 0 0, .string ⟨#[]⟩, .slice none 0 0]) 4 80 Tryz.underlying23 hi hz0 hz1 hz2 rfl (by decide) (.slice (some ⟨gx, 0, none⟩) x.length cx) ents.length (ndV ents) rfl (own_bl (by have := HH.out.row; rw [HEL.out] at this ⊢; exact this) (by repeat (first | exact Bl.refl _ | refine Bl.drew ?_ | refine Bl.alloc ?_ _))) ⟨w.heap.size, 0, none⟩ 1 1 [.string ⟨#[]⟩, .slice none 0 0, .string ⟨t.toArray⟩, .slice none 0 0] rfl rfl (new_cells w #[.string ⟨#[]⟩, .slice none 0 0, .string ⟨t.toArray⟩, .slice none 0 0] _) (by simp [Value.oneCell']) (by decide) (by rw [HEL.out]; unfold maxLen; omega) (by rw [HEL.out]; omega) (by simp; omega) ?_
      intro v' wz hown hg
      obtain ⟨h1, h2⟩ := jt_more (.mk [] [] t []) HH.out hP hbase (by repeat (first | exact Bl.refl _ | refine Bl.drew ?_ | refine Bl.alloc ?_ _)) (AtP.nil _ _) (NdS.nil _ _) hown hg
      clear hown hg
      go_wp2
      go_ret
      exact ⟨_, _, rfl, by rw [HAT.out, hpt.out]; exact h1, h2⟩
end Go.Proofs.YtkacjnifhmgeiaaGreatDoor

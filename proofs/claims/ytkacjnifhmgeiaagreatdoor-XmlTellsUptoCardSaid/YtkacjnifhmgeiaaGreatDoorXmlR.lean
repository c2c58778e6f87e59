/- Documents: xmlBegun. -/
import Derived.Test.YtkacjnifhmgeiaaGreatDoorGrpQ
namespace Go.Proofs.YtkacjnifhmgeiaaGreatDoor
open Go.RowKit

theorem sameOne_c (a b : Nd) (va vb : Value) (P Q : Nat → Prop) (w : World) (h : wtL [a] ≤ 1099511627770) (hab : a = b) (ha : NdS w P va [a]) (hb : NdS w Q vb [b]) :
    Calls Tryz.prog 14 #[va, vb] w fun e w' => e = .returned (.bool true) ∧ Qt w w' := by
  have := sameNodes_c 1099511627771 [a] [b] va vb P Q w (by omega) (by omega) ha hb
  rwa [show sameL [a] [b] = true by subst hab; exact sameL_self _] at this
theorem wpAny_next {P : Program} {ops : Array Oper} {Q : Exit → Act → World → Prop} {a : Act} {w : World} {i : Nat} {o : Oper} {fuel : Nat} {listed : Array Bool} (hr : Region.ready .any ops listed = [i]) (ho : ops[i]? = some o)
    (h : ∀ K' : Act → World → Prop, (∀ a w, wpAny P .any ops Q fuel (listed.setIfInBounds i true) a w → K' a w) → if Region.wanted o (yielded ops a.tmps) = true then o.wp P a w K' Q else K' (a.put o.dst undef) w) : wpAny P .any ops Q (fuel + 1) listed a w :=
  wpAny_ready hr (by simp) (AllReady.cons ho h AllReady.nil)
/-- A node in a new block, as a slice of one. -/
theorem nds_new {W : World} {d : Nd} {va vk : Value} {P : Nat → Prop} (hA : AtP W P va d.a) (hK : NdS W P vk d.k) : NdS (W.alloc (.cells #[.string ⟨d.n.toArray⟩, va, .string ⟨d.x.toArray⟩, vk] 25)) (fun k => P k ∨ k = W.heap.size) (.slice (some ⟨W.heap.size, 0, none⟩) 1 1) [d] :=
  nds_one (heap_alloc_new _ _) (hA.still (Still.of_bl ((Bl.refl _).alloc _))) (hK.of_bl ((Bl.refl _).alloc _))
theorem nds_new2 {W : World} {o : Obj} {d : Nd} {va vk : Value} {P : Nat → Prop} (hA : AtP W P va d.a) (hK : NdS W P vk d.k) : NdS ((W.alloc o).alloc (.cells #[.string ⟨d.n.toArray⟩, va, .string ⟨d.x.toArray⟩, vk] 25)) (fun k => P k ∨ k = W.heap.size + 1) (.slice (some ⟨W.heap.size + 1, 0, none⟩) 1 1) [d] := by
  have h := nds_new (W := W.alloc o) (hA.still (Still.of_bl ((Bl.refl _).alloc _))) (hK.of_bl ((Bl.refl _).alloc _))
  rw [alloc_size] at h
  exact h
theorem docN_wt : wtL [docN] ≤ 1099511627770 := by decide
set_option maxRecDepth 100000 in
set_option maxHeartbeats 16000000 in
theorem xmlBegun_c (w : World) (hE : ES w) (hM : ML w) :
    Calls Tryz.prog 12 #[] w fun e w' => e = .returned (.bool true) ∧ Bl w w' := by
  have PC := Lib.hid (fun W va vk P (hA : AtP W P va docN.a) (hK : NdS W P vk docN.k) => printX_c docN va vk P W (by decide) hA hK)
  rw [doc_pr] at PC
  unfold docS at PC
  have RC := Lib.hid (fun W h hm => readX_c docR W (by decide) h hm)
  rw [doc_rd] at RC
  unfold docR at RC
  have RB := Lib.hid (fun W h hm => readX_c [60, 97, 62, 60, 47, 98, 62] W (by decide) h hm)
  rw [doc_bad] at RB
  have KC := Lib.hid (fun W va vk P (hA : AtP W P va docN.a) (hK : NdS W P vk docN.k) => checkX_c docN va vk P W (by decide) hA hK)
  rw [doc_ck] at KC
  go_enter Tryz.func12, Tryz.ntmps12
  go_wp2_with (first
    | (go_at_call 26; (with_reducible refine (doc_c _).mono ?_); rintro e w1 ⟨va, vk, rfl, hb1, P1, hA1, hK1⟩)
    | (go_at_call 7; (with_reducible refine (PC.out _ _ _ _ hA1 hK1).mono ?_); rintro e w2 ⟨rfl, hb2⟩; have hb12 := hb1.trans hb2)
    | (go_at_call 6; (with_reducible refine (RC.out _ (hE.of_bl hb12) (hM.of_bl hb12)).mono ?_); rintro e w3 ⟨hb3, va3, vk3, rfl, P3, hA3, hK3, hP3⟩; obtain ⟨a1, c1, rfl, -⟩ := id hA3; obtain ⟨a2, c2, rfl, -⟩ := id hK3; have hb13 := (hb12.trans hb3).alloc (.cells #[.string ⟨docN.n.toArray⟩, .slice a1 docN.a.length c1, .string ⟨docN.x.toArray⟩, .slice a2 docN.k.length c2] 25))
    | (go_at_call 6; (with_reducible refine (RB.out _ (hE.of_bl hb13) (hM.of_bl hb13)).mono ?_); rintro e w4 ⟨hb4, rfl⟩; have hb14 := hb13.trans hb4; have hN4 := (nb_par w3 docN.n docN.x a1 docN.a.length c1 a2 docN.k.length c2).of_bl hb4; have hA4 := (hA3.still (Still.of_bl ((Bl.refl _).alloc (.cells #[.string ⟨docN.n.toArray⟩, .slice a1 docN.a.length c1, .string ⟨docN.x.toArray⟩, .slice a2 docN.k.length c2] 25)))).still (Still.of_bl hb4); have hK4 := (hK3.of_bl ((Bl.refl _).alloc (.cells #[.string ⟨docN.n.toArray⟩, .slice a1 docN.a.length c1, .string ⟨docN.x.toArray⟩, .slice a2 docN.k.length c2] 25))).of_bl hb4; have hb15 := hb14.alloc (.cells #[.string ⟨#[]⟩, .slice none 0 0, .string ⟨#[]⟩, .slice none 0 0] 25)))
  have hb5 : Bl w4 (w4.alloc (.cells #[.string ⟨#[]⟩, .slice none 0 0, .string ⟨#[]⟩, .slice none 0 0] 25)).drew := ((Bl.refl w4).alloc _).drew
  have hN5 := hN4.of_bl hb5
  have hA5 := hA4.still (Still.of_bl hb5)
  have hK5 := hK4.of_bl hb5
  obtain ⟨m0, m1, m2, m3, -⟩ := hN5.cells
  refine wp_region_fuel 27 (by kernel_rfl) (by rfl) ?_
  refine wpAny_next (i := 0) (by kernel_rfl) rfl (fun K' hK' => ?_)
  go_simp
  refine hK' _ _ ?_
  clear hK' K'
  refine wpAny_next (i := 1) (by kernel_rfl) rfl (fun K' hK' => ?_)
  go_simp
  refine hK' _ _ ?_
  clear hK' K'
  refine wpAny_next (i := 2) (by kernel_rfl) rfl (fun K' hK' => ?_)
  go_simp
  refine hK' _ _ ?_
  clear hK' K'
  refine wpAny_next (i := 3) (by kernel_rfl) rfl (fun K' hK' => ?_)
  go_simp
  refine hK' _ _ ?_
  clear hK' K'
  refine wpAny_next (i := 4) (by kernel_rfl) rfl (fun K' hK' => ?_)
  go_simp
  refine hK' _ _ ?_
  clear hK' K'
  refine wpAny_next (i := 5) (by kernel_rfl) rfl (fun K' hK' => ?_)
  go_simp
  refine hK' _ _ ?_
  clear hK' K'
  refine wpAny_next (i := 6) (by kernel_rfl) rfl (fun K' hK' => ?_)
  go_simp
  refine hK' _ _ ?_
  clear hK' K'
  refine wpAny_next (i := 7) (by kernel_rfl) rfl (fun K' hK' => ?_)
  go_simp
  refine hK' _ _ ?_
  clear hK' K'
  refine wpAny_next (i := 8) (by kernel_rfl) rfl (fun K' hK' => ?_)
  go_simp
  refine hK' _ _ ?_
  clear hK' K'
  refine wpAny_next (i := 9) (by kernel_rfl) rfl (fun K' hK' => ?_)
  go_simp
  refine hK' _ _ ?_
  clear hK' K'
  refine wpAny_next (i := 10) (by kernel_rfl) rfl (fun K' hK' => ?_)
  go_simp
  refine hK' _ _ ?_
  clear hK' K'
  refine wpAny_next (i := 11) (by kernel_rfl) rfl (fun K' hK' => ?_)
  go_simp
  go_at_call 26
  (with_reducible refine (doc_c (w4.alloc (.cells #[.string ⟨#[]⟩, .slice none 0 0, .string ⟨#[]⟩, .slice none 0 0] 25)).drew).mono ?_)
  rintro e w6 ⟨va6, vk6, rfl, hb6, P6, hA6, hK6⟩
  obtain ⟨b1, e1, rfl, -⟩ := id hA6
  obtain ⟨b2, e2, rfl, -⟩ := id hK6
  refine hK' _ _ ?_
  clear hK' K'
  refine wpAny_next (i := 12) (by kernel_rfl) rfl (fun K' hK' => ?_)
  go_simp
  go_at_call 13
  (with_reducible refine (KC.out _ _ _ _ hA6 hK6).mono ?_)
  rintro e w7 ⟨rfl, hb7⟩
  have hN7 := (hN5.of_bl hb6).of_bl hb7
  have hA7 := (hA5.still (Still.of_bl hb6)).still (Still.of_bl hb7)
  have hK7 := (hK5.of_bl hb6).of_bl hb7
  have hb17 := ((hb14.trans hb5).trans hb6).trans hb7
  clear m0 m1 m2 m3
  obtain ⟨m0, m1, m2, m3, -⟩ := hN7.cells
  refine hK' _ _ ?_
  clear hK' K'
  refine wpAny_next (i := 13) (by kernel_rfl) rfl (fun K' hK' => ?_)
  go_simp
  refine hK' _ _ ?_
  clear hK' K'
  refine wpAny_next (i := 14) (by kernel_rfl) rfl (fun K' hK' => ?_)
  go_simp
  refine hK' _ _ ?_
  clear hK' K'
  refine wpAny_next (i := 15) (by kernel_rfl) rfl (fun K' hK' => ?_)
  go_simp
  refine hK' _ _ ?_
  clear hK' K'
  refine wpAny_next (i := 16) (by kernel_rfl) rfl (fun K' hK' => ?_)
  go_simp
  refine hK' _ _ ?_
  clear hK' K'
  refine wpAny_next (i := 17) (by kernel_rfl) rfl (fun K' hK' => ?_)
  go_simp
  refine hK' _ _ ?_
  clear hK' K'
  refine wpAny_next (i := 18) (by kernel_rfl) rfl (fun K' hK' => ?_)
  go_simp
  refine hK' _ _ ?_
  clear hK' K'
  refine wpAny_next (i := 19) (by kernel_rfl) rfl (fun K' hK' => ?_)
  go_simp
  refine hK' _ _ ?_
  clear hK' K'
  refine wpAny_ready (rs := [20, 22]) (by kernel_rfl) (by simp) (AllReady.cons rfl (fun K' hK' => ?_) (AllReady.cons rfl (fun K' hK' => ?_) AllReady.nil))
  · go_simp
    refine hK' _ _ ?_
    clear hK' K'
    refine wpAny_ready (rs := [21, 22]) (by kernel_rfl) (by simp) (AllReady.cons rfl (fun K' hK' => ?_) (AllReady.cons rfl (fun K' hK' => ?_) AllReady.nil))
    · go_simp
      refine hK' _ _ ?_
      clear hK' K'
      refine wpAny_next (i := 22) (by kernel_rfl) rfl (fun K' hK' => ?_)
      go_simp
      go_at_call 26
      (with_reducible refine (doc_c _).mono ?_)
      rintro e w8 ⟨va8, vk8, rfl, hb8, P8, hA8, hK8⟩
      obtain ⟨b1, e1, rfl, -⟩ := id hA8
      obtain ⟨b2, e2, rfl, -⟩ := id hK8
      refine hK' _ _ ?_
      clear hK' K'
      refine wpAny_next (i := 23) (by kernel_rfl) rfl (fun K' hK' => ?_)
      go_simp
      refine hK' _ _ ?_
      clear hK' K'
      refine wpAny_next (i := 24) (by kernel_rfl) rfl (fun K' hK' => ?_)
      go_simp
      go_at_call 14
      (with_reducible refine (sameOne_c docN docN _ _ _ _ _ docN_wt rfl ((nds_new hA7 hK7).of_bl hb8 |>.of_bl ((Bl.refl _).alloc _)) (nds_new hA8 hK8)).mono ?_)
      rintro e w9 ⟨rfl, hq9⟩
      refine hK' _ _ ?_
      clear hK' K'
      refine wpAny_next (i := 25) (by kernel_rfl) rfl (fun K' hK' => ?_)
      go_simp
      refine hK' _ _ ?_
      clear hK' K'
      refine wpAny_next (i := 26) (by kernel_rfl) rfl (fun K' hK' => ?_)
      go_simp
      refine hK' _ _ ?_
      clear hK' K'
      refine wpAny_done (by kernel_rfl) ?_ _
      go_wp2
      go_ret
      exact ⟨rfl, (((hb17.alloc _).trans hb8).alloc _).trans hq9.bl⟩
    · go_simp
      go_at_call 26
      (with_reducible refine (doc_c _).mono ?_)
      rintro e w8 ⟨va8, vk8, rfl, hb8, P8, hA8, hK8⟩
      obtain ⟨b1, e1, rfl, -⟩ := id hA8
      obtain ⟨b2, e2, rfl, -⟩ := id hK8
      refine hK' _ _ ?_
      clear hK' K'
      have hA8' := hA7.still (Still.of_bl hb8)
      have hK8' := hK7.of_bl hb8
      obtain ⟨m0, m1, m2, m3, -⟩ := (hN7.of_bl hb8).cells
      have hlt8 := (hN7.of_bl hb8).lt
      refine wpAny_ready (rs := [21, 23]) (by kernel_rfl) (by simp) (AllReady.cons rfl (fun K' hK' => ?_) (AllReady.cons rfl (fun K' hK' => ?_) AllReady.nil))
      · go_simp
        refine hK' _ _ ?_
        clear hK' K'
        refine wpAny_next (i := 23) (by kernel_rfl) rfl (fun K' hK' => ?_)
        go_simp
        refine hK' _ _ ?_
        clear hK' K'
        refine wpAny_next (i := 24) (by kernel_rfl) rfl (fun K' hK' => ?_)
        go_simp
        go_at_call 14
        (with_reducible refine (sameOne_c docN docN _ _ _ _ _ docN_wt rfl ((nds_new hA8' hK8').of_bl ((Bl.refl _).alloc _)) (nds_new2 hA8 hK8)).mono ?_)
        rintro e w9 ⟨rfl, hq9⟩
        refine hK' _ _ ?_
        clear hK' K'
        refine wpAny_next (i := 25) (by kernel_rfl) rfl (fun K' hK' => ?_)
        go_simp
        refine hK' _ _ ?_
        clear hK' K'
        refine wpAny_next (i := 26) (by kernel_rfl) rfl (fun K' hK' => ?_)
        go_simp
        refine hK' _ _ ?_
        clear hK' K'
        refine wpAny_done (by kernel_rfl) ?_ _
        go_wp2
        go_ret
        exact ⟨rfl, (((hb17.trans hb8).alloc _).alloc _).trans hq9.bl⟩
      · go_simp
        refine hK' _ _ ?_
        clear hK' K'
        refine wpAny_next (i := 21) (by kernel_rfl) rfl (fun K' hK' => ?_)
        go_simp
        refine hK' _ _ ?_
        clear hK' K'
        refine wpAny_next (i := 24) (by kernel_rfl) rfl (fun K' hK' => ?_)
        go_simp
        go_at_call 14
        (with_reducible refine (sameOne_c docN docN _ _ _ _ _ docN_wt rfl (nds_new2 hA8' hK8') ((nds_new hA8 hK8).of_bl ((Bl.refl _).alloc _))).mono ?_)
        rintro e w9 ⟨rfl, hq9⟩
        refine hK' _ _ ?_
        clear hK' K'
        refine wpAny_next (i := 25) (by kernel_rfl) rfl (fun K' hK' => ?_)
        go_simp
        refine hK' _ _ ?_
        clear hK' K'
        refine wpAny_next (i := 26) (by kernel_rfl) rfl (fun K' hK' => ?_)
        go_simp
        refine hK' _ _ ?_
        clear hK' K'
        refine wpAny_done (by kernel_rfl) ?_ _
        go_wp2
        go_ret
        exact ⟨rfl, (((hb17.trans hb8).alloc _).alloc _).trans hq9.bl⟩
  · go_simp
    go_at_call 26
    (with_reducible refine (doc_c _).mono ?_)
    rintro e w8 ⟨va8, vk8, rfl, hb8, P8, hA8, hK8⟩
    obtain ⟨b1, e1, rfl, -⟩ := id hA8
    obtain ⟨b2, e2, rfl, -⟩ := id hK8
    refine hK' _ _ ?_
    clear hK' K'
    have hA8' := hA7.still (Still.of_bl hb8)
    have hK8' := hK7.of_bl hb8
    obtain ⟨m0, m1, m2, m3, -⟩ := (hN7.of_bl hb8).cells
    have hlt8 := (hN7.of_bl hb8).lt
    refine wpAny_ready (rs := [20, 23]) (by kernel_rfl) (by simp) (AllReady.cons rfl (fun K' hK' => ?_) (AllReady.cons rfl (fun K' hK' => ?_) AllReady.nil))
    · go_simp
      refine hK' _ _ ?_
      clear hK' K'
      refine wpAny_ready (rs := [21, 23]) (by kernel_rfl) (by simp) (AllReady.cons rfl (fun K' hK' => ?_) (AllReady.cons rfl (fun K' hK' => ?_) AllReady.nil))
      · go_simp
        refine hK' _ _ ?_
        clear hK' K'
        refine wpAny_next (i := 23) (by kernel_rfl) rfl (fun K' hK' => ?_)
        go_simp
        refine hK' _ _ ?_
        clear hK' K'
        refine wpAny_next (i := 24) (by kernel_rfl) rfl (fun K' hK' => ?_)
        go_simp
        go_at_call 14
        (with_reducible refine (sameOne_c docN docN _ _ _ _ _ docN_wt rfl ((nds_new hA8' hK8').of_bl ((Bl.refl _).alloc _)) (nds_new2 hA8 hK8)).mono ?_)
        rintro e w9 ⟨rfl, hq9⟩
        refine hK' _ _ ?_
        clear hK' K'
        refine wpAny_next (i := 25) (by kernel_rfl) rfl (fun K' hK' => ?_)
        go_simp
        refine hK' _ _ ?_
        clear hK' K'
        refine wpAny_next (i := 26) (by kernel_rfl) rfl (fun K' hK' => ?_)
        go_simp
        refine hK' _ _ ?_
        clear hK' K'
        refine wpAny_done (by kernel_rfl) ?_ _
        go_wp2
        go_ret
        exact ⟨rfl, (((hb17.trans hb8).alloc _).alloc _).trans hq9.bl⟩
      · go_simp
        refine hK' _ _ ?_
        clear hK' K'
        refine wpAny_next (i := 21) (by kernel_rfl) rfl (fun K' hK' => ?_)
        go_simp
        refine hK' _ _ ?_
        clear hK' K'
        refine wpAny_next (i := 24) (by kernel_rfl) rfl (fun K' hK' => ?_)
        go_simp
        go_at_call 14
        (with_reducible refine (sameOne_c docN docN _ _ _ _ _ docN_wt rfl (nds_new2 hA8' hK8') ((nds_new hA8 hK8).of_bl ((Bl.refl _).alloc _))).mono ?_)
        rintro e w9 ⟨rfl, hq9⟩
        refine hK' _ _ ?_
        clear hK' K'
        refine wpAny_next (i := 25) (by kernel_rfl) rfl (fun K' hK' => ?_)
        go_simp
        refine hK' _ _ ?_
        clear hK' K'
        refine wpAny_next (i := 26) (by kernel_rfl) rfl (fun K' hK' => ?_)
        go_simp
        refine hK' _ _ ?_
        clear hK' K'
        refine wpAny_done (by kernel_rfl) ?_ _
        go_wp2
        go_ret
        exact ⟨rfl, (((hb17.trans hb8).alloc _).alloc _).trans hq9.bl⟩
    · go_simp
      refine hK' _ _ ?_
      clear hK' K'
      refine wpAny_next (i := 20) (by kernel_rfl) rfl (fun K' hK' => ?_)
      go_simp
      refine hK' _ _ ?_
      clear hK' K'
      refine wpAny_next (i := 21) (by kernel_rfl) rfl (fun K' hK' => ?_)
      go_simp
      refine hK' _ _ ?_
      clear hK' K'
      refine wpAny_next (i := 24) (by kernel_rfl) rfl (fun K' hK' => ?_)
      go_simp
      go_at_call 14
      (with_reducible refine (sameOne_c docN docN _ _ _ _ _ docN_wt rfl (nds_new2 hA8' hK8') ((nds_new hA8 hK8).of_bl ((Bl.refl _).alloc _))).mono ?_)
      rintro e w9 ⟨rfl, hq9⟩
      refine hK' _ _ ?_
      clear hK' K'
      refine wpAny_next (i := 25) (by kernel_rfl) rfl (fun K' hK' => ?_)
      go_simp
      refine hK' _ _ ?_
      clear hK' K'
      refine wpAny_next (i := 26) (by kernel_rfl) rfl (fun K' hK' => ?_)
      go_simp
      refine hK' _ _ ?_
      clear hK' K'
      refine wpAny_done (by kernel_rfl) ?_ _
      go_wp2
      go_ret
      exact ⟨rfl, (((hb17.trans hb8).alloc _).alloc _).trans hq9.bl⟩
end Go.Proofs.YtkacjnifhmgeiaaGreatDoor

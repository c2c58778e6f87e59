/- Documents, the reference: CheckXml. -/
import Derived.Test.YtkacjnifhmgeiaaGreatDoorXmlRp
import Derived.Test.YtkacjnifhmgeiaaGreatDoorGrpP
import Derived.Test.YtkacjnifhmgeiaaGreatDoorTreRb
namespace Go.Proofs.YtkacjnifhmgeiaaGreatDoor
open Go.RowKit

theorem ab_one (d : Nat) : ab 1 d = d := by
  unfold ab; split <;> omega
theorem cntR_c (l : List Nd) (v : Value) (P : Nat → Prop) (w : World) (hc : cntL l ≤ 100000000) (hN : NdS w P v l) :
    Calls Tryz.prog 19 #[v, .int .i64 1] w fun e w' => e = .returned (.tuple #[.int .i64 (manyL 8 l : Nat), .int .i64 (deepL 8 l : Nat)]) ∧ Bl w w' := by
  have h := count_c 8 1 l v P w rfl (by omega) hc hN
  rw [ab_one] at h
  exact h.mono fun e w' ⟨he, hw⟩ => ⟨he, by rw [hw]; exact Bl.refl _⟩
set_option maxRecDepth 100000 in
set_option maxHeartbeats 4000000 in
theorem checkXmlR_c (d : Nd) (va vk : Value) (P : Nat → Prop) (w : World) (hN : wtN d ≤ 9000000) (hA : AtP w P va d.a) (hK : NdS w P vk d.k) :
    Calls Tryz.prog 9 #[.agg #[.string ⟨d.n.toArray⟩, va, .string ⟨d.x.toArray⟩, vk]] w fun e w' => e = .returned (.int .i64 (ckX d)) ∧ Bl w w' := by
  obtain ⟨ao, ac, rfl, -⟩ := id hA
  obtain ⟨ko, kc, rfl, -⟩ := id hK
  have hw := wtN_mk d
  have hlc := wt_cnt d.k
  have hcn : cntL [d] ≤ 100000000 := by cases d; simp only [cntL, cntN, Nd.k] at *; omega
  have hb1 := (Bl.refl w).alloc (.cells #[.string ⟨d.n.toArray⟩, .slice ao d.a.length ac, .string ⟨d.x.toArray⟩, .slice ko d.k.length kc] 25)
  have hP1 := nb_par w d.n d.x ao d.a.length ac ko d.k.length kc
  have hb2 := hb1.alloc (.cells #[.string ⟨d.n.toArray⟩, .slice ao d.a.length ac, .string ⟨d.x.toArray⟩, .slice ko d.k.length kc] 25)
  have hP2 := nb_par (w.alloc (.cells #[.string ⟨d.n.toArray⟩, .slice ao d.a.length ac, .string ⟨d.x.toArray⟩, .slice ko d.k.length kc] 25)) d.n d.x ao d.a.length ac ko d.k.length kc
  have SC := Lib.hid (cntR_c [d] _ _ _ hcn (nds_one hP2 (hA.still (Still.of_bl hb2)) (hK.of_bl hb2)))
  have hP12 := hP1.of_bl ((Bl.refl _).alloc (.cells #[.string ⟨d.n.toArray⟩, .slice ao d.a.length ac, .string ⟨d.x.toArray⟩, .slice ko d.k.length kc] 25))
  have NC := Lib.hid (fun W (hbW : Bl w W) => checkXmlN_c 9000001 d (.slice ao d.a.length ac) (.slice ko d.k.length kc) P W (by omega) (by omega) (hA.still (Still.of_bl hbW)) (hK.of_bl hbW))
  rw [alloc_size] at SC
  obtain ⟨M, hM⟩ : ∃ M, M = manyL 8 [d] := ⟨_, rfl⟩
  obtain ⟨D, hD⟩ : ∃ D, D = deepL 8 [d] := ⟨_, rfl⟩
  have HC := Lib.hid (show ckX d = if 3000 < M ∨ 8 < D then 2 else if d.n = [] then 1 else cxN false d by rw [hM, hD]; rfl)
  rw [← hM, ← hD] at SC
  have SC2 : Hid (Calls Tryz.prog 19 #[.slice (some ⟨w.heap.size + 1, 0, none⟩) 1 1, .int .i64 1] ((w.alloc (.cells #[.string ⟨d.n.toArray⟩, .slice ao d.a.length ac, .string ⟨d.x.toArray⟩, .slice ko d.k.length kc] 25)).alloc (.cells #[.string ⟨d.n.toArray⟩, .slice ao d.a.length ac, .string ⟨d.x.toArray⟩, .slice ko d.k.length kc] 25)) fun e w' => e = .returned (.tuple #[.int .i64 (M : Nat), .int .i64 (D : Nat)]) ∧ Bl ((w.alloc (.cells #[.string ⟨d.n.toArray⟩, .slice ao d.a.length ac, .string ⟨d.x.toArray⟩, .slice ko d.k.length kc] 25)).alloc (.cells #[.string ⟨d.n.toArray⟩, .slice ao d.a.length ac, .string ⟨d.x.toArray⟩, .slice ko d.k.length kc] 25)) w') := SC
  have hPW : Hid (∀ w3, Bl ((w.alloc (.cells #[.string ⟨d.n.toArray⟩, .slice ao d.a.length ac, .string ⟨d.x.toArray⟩, .slice ko d.k.length kc] 25)).alloc (.cells #[.string ⟨d.n.toArray⟩, .slice ao d.a.length ac, .string ⟨d.x.toArray⟩, .slice ko d.k.length kc] 25)) w3 → Nb w3 w.heap.size d.n (.slice ao d.a.length ac) d.x (.slice ko d.k.length kc) ∧ Bl w w3) := Lib.hid (fun w3 h => ⟨hP12.of_bl h, hb2.trans h⟩)
  clear SC hM hD hP1 hP2 hP12 hb1 hb2
  have hs1 : M < 3001 ∨ 3000 < M := by omega
  by_cases hm : 3000 < M
  · have hm' : (3000 : Int) < (M : Int) := by omega
    have HR := Lib.hid (show ckX d = 2 by rw [HC.out, if_pos (Or.inl hm)])
    go_enter Tryz.func9, Tryz.ntmps9
    go_wp2_with (go_at_call 19; (with_reducible refine SC2.out.mono ?_); rintro e w3 ⟨rfl, hb3⟩; obtain ⟨hN3, hb3'⟩ := hPW.out _ hb3)
    go_ret
    exact ⟨ret_int HR.out.symm, hb3'⟩
  · have hm' : ¬ (3000 : Int) < (M : Int) := by omega
    by_cases hd : 8 < D
    · have hd' : (8 : Int) < (D : Int) := by omega
      have HR := Lib.hid (show ckX d = 2 by rw [HC.out, if_pos (Or.inr hd)])
      go_enter Tryz.func9, Tryz.ntmps9
      go_wp2_with (go_at_call 19; (with_reducible refine SC2.out.mono ?_); rintro e w3 ⟨rfl, hb3⟩; obtain ⟨hN3, hb3'⟩ := hPW.out _ hb3)
      go_ret
      exact ⟨ret_int HR.out.symm, hb3'⟩
    · have hd' : ¬ (8 : Int) < (D : Int) := by omega
      by_cases hn : d.n = []
      · have hne : d.n.isEmpty = true := by simp [hn]
        have HR := Lib.hid (show ckX d = 1 by rw [HC.out, if_neg (by omega), if_pos hn])
        clear hn
        go_enter Tryz.func9, Tryz.ntmps9
        go_wp2_with (go_at_call 19; (with_reducible refine SC2.out.mono ?_); rintro e w3 ⟨rfl, hb3⟩; obtain ⟨hN3, hb3'⟩ := hPW.out _ hb3; obtain ⟨p0, p1, p2, p3, -⟩ := hN3.cells)
        go_ret
        exact ⟨ret_int HR.out.symm, hb3'⟩
      · have hne : d.n.isEmpty = false := emp2 hn
        have HR := Lib.hid (show ckX d = cxN false d by rw [HC.out, if_neg (by omega), if_neg hn])
        clear hn
        go_enter Tryz.func9, Tryz.ntmps9
        go_wp2_with (first | (go_at_call 19; (with_reducible refine SC2.out.mono ?_); rintro e w3 ⟨rfl, hb3⟩; obtain ⟨hN3, hb3'⟩ := hPW.out _ hb3; obtain ⟨p0, p1, p2, p3, -⟩ := hN3.cells) | (go_at_call 20; (with_reducible refine (NC.out _ hb3').mono ?_); rintro e w4 ⟨rfl, hb4⟩))
        go_ret
        exact ⟨ret_int HR.out.symm, hb3'.trans hb4⟩
end Go.Proofs.YtkacjnifhmgeiaaGreatDoor

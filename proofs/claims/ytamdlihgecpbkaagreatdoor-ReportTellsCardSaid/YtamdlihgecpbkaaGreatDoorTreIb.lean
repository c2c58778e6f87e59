/- Trees: put, a text (printed by a program from put of an element). -/
import Derived.Test.YtamdlihgecpbkaaGreatDoorTreH
set_option maxRecDepth 100000
set_option maxHeartbeats 4000000
namespace Go.Proofs.YtamdlihgecpbkaaGreatDoor
open Go.RowKit
theorem put_cC (base b : Nat) (P : Nat → Prop) (s : St) (d : Nd) (va vk : Value) (w : World) (hB : BdS w base b P s) (ha : AtP w P va d.a) (hk : NdS w P vk d.k) (hbw : base ≤ w.heap.size) (hx : (lsX s.1 s.2).length ≤ 1000000) (hl : s.2.length ≤ 1000000)
 (hno : d.n = []) (hxe : lsX s.1 s.2 = []) :
 Calls Tryz.prog 115 #[.pointer (some ⟨b, 0, none⟩), .agg #[.string ⟨d.n.toArray⟩, va, .string ⟨d.x.toArray⟩, vk]] w fun e w' => e = .returned (.tuple #[]) ∧ BdS w' base b P (put s d) ∧ Below base w w' ∧ Still P w w' := by
 obtain ⟨i0, hi, hz0, hz1, hz2⟩ := info_parts Tryz.infoNod; obtain ⟨gn, cn, vo, lv, v, oe, h⟩ := hB; obtain ⟨q1, q2, q3⟩ := put_ls s d; have hptl : pt (lsX s.1 s.2) d = lsX s.1 s.2 ++ [d] := by rw [hxe]; rfl
 rw [hptl] at q2; have HFIN := Lib.hid (show ∀ W, (∃ v oe, BdR W base b P (lsI s.1 s.2) (lsX s.1 s.2 ++ [d]) (opO s.2) gn cn vo lv v oe) → BdS W base b P (put s d) from fun W hW => by
  obtain ⟨v, oe, hW⟩ := hW; refine ⟨gn, cn, vo, lv, v, oe, ?_⟩; rw [q1, q2, q3]; exact hW)
 clear hptl q1 q2 q3; have hne : d.n = [] := hno; obtain ⟨c0, c1, f0, f1⟩ := h.cells; obtain ⟨n0, n1, n2⟩ := h.last; have hblt := h.blt; have hgn := h.gnlt; obtain ⟨e0, h0⟩ := h.top; obtain ⟨av, nv, cv0, rfl, -⟩ : ∃ a n c, va = .slice a n c ∧ n ≤ c := by obtain ⟨a, c, e, hc, -⟩ := ha; exact ⟨a, _, c, e, hc⟩
 obtain ⟨ak, nk, ck, rfl, -⟩ : ∃ a n c, vk = .slice a n c ∧ n ≤ c := by obtain ⟨a, c, e, hc, -⟩ := hk; exact ⟨a, _, c, e, hc⟩
 obtain ⟨ax, cx, hv, hxc⟩ := own_shp h0.row; have hel := h0.len; rw [hel] at hv hxc; have hvl : lv.length ≤ 1000000 := by rw [h.len, lsI_len]; exact hl
 have HX := Lib.hid hx; have hxl : (lsX s.1 s.2).length ≤ 1000000 := hx; obtain ⟨X, hX⟩ : ∃ X, X = lsX s.1 s.2 := ⟨_, rfl⟩; rw [← hX] at h hv hxc hel h0 HFIN hxl hxe; subst hv; have hX0 : X.length = 0 := by rw [hxe]; rfl
 have hX1 : ¬ (0 : Int) < (X.length : Int) := by omega
 obtain ⟨N, hN⟩ : ∃ N, N = lv.length := ⟨_, rfl⟩; have H := Lib.hid h; rw [← hN] at c0 n0 n1 n2 hvl; have HN := Lib.hid hN; have HE := Lib.hid hel; have H0 := Lib.hid h0; have HA := Lib.hid ha; have HK := Lib.hid hk; clear h hX hx hN hel h0 ha hk hno hX0 hxe; go_enter Tryz.func115, Tryz.ntmps115; go_wp2; go_region; go_wp2; have hel' : e0.length ≤ 1000000 := by have := HE.out; omega
 have HZ := Lib.hid (ndV_len e0); have hlt1 : (X.length : Int) < (X.length : Int) + 1 := by omega
 go_region_law (refine step_append_gr rfl (.tmp 54) (.tmp 57) 53 rfl base 76 i0 (.agg #[.string ⟨#[]⟩, .slice none 0 0, .string ⟨#[]⟩, .slice none 0 0]) 4 80 Tryz.underlying53 hi hz0 hz1 hz2 rfl (by decide) (.slice ax X.length cx) e0.length (ndV e0) (by simp [Act.eval, Act.put]) (own_bl' H0.out.row Bl.z) ⟨w.heap.size + 1, 0, none⟩ 1 1 [.string ⟨#[]⟩, .slice none 0 0, .string ⟨#[]⟩, .slice none 0 0] (by simp [Act.eval, Act.put]) rfl (new_cells2 w _ #[.string ⟨#[]⟩, .slice none 0 0, .string ⟨#[]⟩, .slice none 0 0] _) (by simp [Value.oneCell']) (by decide) (by unfold maxLen; omega) (by omega) (by simp; omega) ?_; intro v' wz hown' hgr; rw [HE.out] at hown'; obtain ⟨gv, cv, rfl, hcv⟩ := own_some hown'; have hg2 := hgr.of_bl (w := w) Bl.z; obtain ⟨k0, k1⟩ := H.out.keep hg2; rw [← HN.out] at k0 k1; obtain ⟨k2, k3⟩ := H.out.kept hg2 hown'; obtain ⟨m0, m1, m2, m3, m4, m5, m6, m7, m8⟩ := own_last4 hown' (by rw [HZ.out, HE.out]); have HG := Lib.hid hg2; have HW := Lib.hid hown'; clear hgr hg2 hown')
 all_goals
  go_wp2; go_end0; have key := put_end H.out H0.out HA.out HK.out hbw HG.out HE.out HW.out; rw [← HN.out, hne] at key; refine ⟨rfl, HFIN.out _ ?_, ?_⟩
  · first | (with_reducible exact key.1) | (rw [sc_comm4 (h := k2)]; with_reducible exact key.1)
  · first | (with_reducible exact key.2) | (rw [sc_comm4 (h := k2)]; with_reducible exact key.2)
end Go.Proofs.YtamdlihgecpbkaaGreatDoor

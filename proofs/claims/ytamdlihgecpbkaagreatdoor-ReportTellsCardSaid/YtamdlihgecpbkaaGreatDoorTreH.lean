/- Trees: put. -/
import Derived.Test.YtamdlihgecpbkaaGreatDoorGrpK
import Derived.Test.YtamdlihgecpbkaaGreatDoorGrpH
import Derived.BigRegion
import Derived.RegionTactic
set_option maxRecDepth 100000
set_option maxHeartbeats 4000000
namespace Go.Proofs.YtamdlihgecpbkaaGreatDoor
open Go.RowKit
theorem Tryz.infoNod : (Tryz.prog.info? 76).map (fun i => (i.zero, i.size, i.bytes)) = some (some (.agg #[.string ⟨#[]⟩, .slice none 0 0, .string ⟨#[]⟩, .slice none 0 0]), 4, 80) := by kernel_rfl
theorem own_bl' {w w' : World} {base : Nat} {e : TypeId} {size n : Nat} {v : Value} {xs : List Value} (h : w.ownsRow base e size v n xs) (hb : Bl w w') : w'.ownsRow base e size v n xs :=
 own_same h fun k hk => Below.block hb k (World.ownsRow.lt h k hk).2
theorem own_shp {w : World} {base : Nat} {e : TypeId} {size n : Nat} {v : Value} {xs : List Value} (h : w.ownsRow base e size v n xs) : ∃ ao c, v = .slice ao n c ∧ n ≤ c := by
 rcases h.2 with ⟨rfl, rfl⟩ | ⟨g, cap, cur, rfl, _, _, hc, _⟩
 · exact ⟨none, 0, rfl, Nat.le_refl _⟩
 · exact ⟨_, _, rfl, hc⟩
theorem BdR.keep {w w1 : World} {base b : Nat} {P : Nat → Prop} {li : List (List Nd)} {x : List Nd} {op : List (Nm × List Atr)} {gn cn : Nat} {vo v v' : Value} {lv : List Value} {oe : List Oent} (h : BdR w base b P li x op gn cn vo lv v oe) (hg : Grew w w1 v v') :
 w1.cell? ⟨gn, lv.length, none⟩ = some v ∧ w1.frozen? ⟨gn, lv.length, none⟩ = false := by
 obtain ⟨e0, h0⟩ := h.top; obtain ⟨cN, hcN⟩ := own_row h.nod (k := gn) rfl; have hvn : v.ownBlock ≠ some gn := own_ty h0.row hcN (by decide); have e := hg.other gn h.gnlt.2 hvn; have h1 := World.ownsRow.cellAt h.nod lv.length (by omega); have h2 := World.ownsRow.frozenAt h.nod lv.length; refine ⟨?_, ?_⟩
 · rw [World.cell?_of_block (w := w) e, h1]; simp
 · rw [World.frozen?_of_block (w := w) e, h2]
theorem BdR.last {w : World} {base b : Nat} {P : Nat → Prop} {li : List (List Nd)} {x : List Nd} {op : List (Nm × List Atr)} {gn cn : Nat} {vo v : Value} {lv : List Value} {oe : List Oent} (h : BdR w base b P li x op gn cn vo lv v oe) :
 w.cell? ⟨gn, lv.length, none⟩ = some v ∧ w.frozen? ⟨gn, lv.length, none⟩ = false ∧ (lv.length : Int) + 1 ≤ cn := by
 have h1 := World.ownsRow.cellAt h.nod lv.length (by omega); have h2 := World.ownsRow.frozenAt h.nod lv.length; refine ⟨by rw [h1]; simp, h2, ?_⟩; rcases h.nod.2 with ⟨e, _⟩ | ⟨g, cap, cur, e, _, _, hc, _⟩
 · simp at e
 · cases e; omega
theorem BdR.kept {w w1 : World} {base b : Nat} {P : Nat → Prop} {li : List (List Nd)} {x : List Nd} {op : List (Nm × List Atr)} {gn cn : Nat} {vo v v' : Value} {lv : List Value} {oe : List Oent} (h : BdR w base b P li x op gn cn vo lv v oe) (hg : Grew w w1 v v')
 {n gv cv : Nat} {ys : List Value} (ho : w1.ownsRow base 76 4 (.slice (some ⟨gv, 0, none⟩) n cv) n ys) : gv ≠ gn ∧ gn ≠ gv := by
 obtain ⟨e0, h0⟩ := h.top; obtain ⟨cN, hcN⟩ := own_row h.nod (k := gn) rfl; have hvn : v.ownBlock ≠ some gn := own_ty h0.row hcN (by decide); have e := (hg.other gn h.gnlt.2 hvn).trans hcN; have : gv ≠ gn := fun e2 => own_ty ho e (by decide) (by rw [e2]; rfl)
 exact ⟨this, this.symm⟩
theorem own_last4 {w : World} {base g n c : Nat} {e : TypeId} {xs : List Value} {a0 a1 a2 a3 : Value} (h : w.ownsRow base e 4 (.slice (some ⟨g, 0, none⟩) (n + 1) c) (n + 1) (xs ++ [a0, a1, a2, a3])) (hx : xs.length = n * 4) :
 w.cell? ⟨g, n * 4, none⟩ = some a0 ∧ w.cell? ⟨g, n * 4 + 1, none⟩ = some a1 ∧ w.cell? ⟨g, n * 4 + 2, none⟩ = some a2 ∧ w.cell? ⟨g, n * 4 + 3, none⟩ = some a3 ∧
  w.frozen? ⟨g, n * 4, none⟩ = false ∧ w.frozen? ⟨g, n * 4 + 1, none⟩ = false ∧ w.frozen? ⟨g, n * 4 + 2, none⟩ = false ∧ w.frozen? ⟨g, n * 4 + 3, none⟩ = false ∧ g < w.heap.size := by
 have hs := (World.ownsRow.lt h g rfl).2; refine ⟨?_, ?_, ?_, ?_, World.ownsRow.frozenAt h _, World.ownsRow.frozenAt h _, World.ownsRow.frozenAt h _, World.ownsRow.frozenAt h _, hs⟩
 · rw [World.ownsRow.cellAt h _ (by omega), List.getElem?_append_right (by omega), hx, show n * 4 - n * 4 = 0 by omega]; rfl
 · rw [World.ownsRow.cellAt h _ (by omega), List.getElem?_append_right (by omega), hx, show n * 4 + 1 - n * 4 = 1 by omega]; rfl
 · rw [World.ownsRow.cellAt h _ (by omega), List.getElem?_append_right (by omega), hx, show n * 4 + 2 - n * 4 = 2 by omega]; rfl
 · rw [World.ownsRow.cellAt h _ (by omega), List.getElem?_append_right (by omega), hx, show n * 4 + 3 - n * 4 = 3 by omega]; rfl
theorem sc_comm (w : World) (a c : Addr) (x y : Value) (h : a.block ≠ c.block) : (w.setCell a x).setCell c y = (w.setCell c y).setCell a x := by
 unfold World.setCell; congr 1; apply Array.ext
 · simp
 · intro i h1 h2; simp only [Array.getElem_modify]; by_cases e1 : c.block = i <;> by_cases e2 : a.block = i <;> simp_all
theorem sc_comm4 (w : World) (g k o o0 o1 o2 o3 : Nat) (x b0 b1 b2 b3 : Value) (h : g ≠ k) :
 ((((w.setCell ⟨k, o, none⟩ x).setCell ⟨g, o0, none⟩ b0).setCell ⟨g, o1, none⟩ b1).setCell ⟨g, o2, none⟩ b2).setCell ⟨g, o3, none⟩ b3 = ((((w.setCell ⟨g, o0, none⟩ b0).setCell ⟨g, o1, none⟩ b1).setCell ⟨g, o2, none⟩ b2).setCell ⟨g, o3, none⟩ b3).setCell ⟨k, o, none⟩ x := by
 rw [sc_comm _ ⟨k, o, none⟩ ⟨g, o0, none⟩ _ _ (Ne.symm h), sc_comm _ ⟨k, o, none⟩ ⟨g, o1, none⟩ _ _ (Ne.symm h), sc_comm _ ⟨k, o, none⟩ ⟨g, o2, none⟩ _ _ (Ne.symm h), sc_comm _ ⟨k, o, none⟩ ⟨g, o3, none⟩ _ _ (Ne.symm h)]
theorem put_end {w wz : World} {base b : Nat} {P : Nat → Prop} {li : List (List Nd)} {X : List Nd} {op : List (Nm × List Atr)} {gn cn gv cv : Nat} {vo v va vk : Value} {lv : List Value} {oe : List Oent} {e0 : List Nent} {d : Nd} (H : BdR w base b P li X op gn cn vo lv v oe) (H0 : NdO w base P v X e0)
 (ha : AtP w P va d.a) (hk : NdS w P vk d.k) (hb : base ≤ w.heap.size) (hG : Grew w wz v (.slice (some ⟨gv, 0, none⟩) (X.length + 1) cv)) (hE : e0.length = X.length) {a0 a1 a2 a3 : Value}
 (hW : wz.ownsRow base 76 4 (.slice (some ⟨gv, 0, none⟩) (X.length + 1) cv) (X.length + 1) (ndV e0 ++ [a0, a1, a2, a3])) :
 (∃ v oe, BdR (((((wz.setCell ⟨gv, X.length * 4, none⟩ (.string ⟨d.n.toArray⟩)).setCell ⟨gv, X.length * 4 + 1, none⟩ va).setCell ⟨gv, X.length * 4 + 2, none⟩ (.string ⟨d.x.toArray⟩)).setCell ⟨gv, X.length * 4 + 3, none⟩ vk).setCell ⟨gn, lv.length, none⟩ (.slice (some ⟨gv, 0, none⟩) (X.length + 1) cv)) base b P li (X ++ [d]) op gn cn vo lv v oe) ∧
  Below base w (((((wz.setCell ⟨gv, X.length * 4, none⟩ (.string ⟨d.n.toArray⟩)).setCell ⟨gv, X.length * 4 + 1, none⟩ va).setCell ⟨gv, X.length * 4 + 2, none⟩ (.string ⟨d.x.toArray⟩)).setCell ⟨gv, X.length * 4 + 3, none⟩ vk).setCell ⟨gn, lv.length, none⟩ (.slice (some ⟨gv, 0, none⟩) (X.length + 1) cv)) ∧
  Still P w (((((wz.setCell ⟨gv, X.length * 4, none⟩ (.string ⟨d.n.toArray⟩)).setCell ⟨gv, X.length * 4 + 1, none⟩ va).setCell ⟨gv, X.length * 4 + 2, none⟩ (.string ⟨d.x.toArray⟩)).setCell ⟨gv, X.length * 4 + 3, none⟩ vk).setCell ⟨gn, lv.length, none⟩ (.slice (some ⟨gv, 0, none⟩) (X.length + 1) cv)) := by
 have h1 := own_put4 hW (by rw [ndV_len, hE]) (.string ⟨d.n.toArray⟩) va (.string ⟨d.x.toArray⟩) vk; have h2 := hG.put4 rfl (X.length * 4) (X.length * 4 + 1) (X.length * 4 + 2) (X.length * 4 + 3) (.string ⟨d.n.toArray⟩) va (.string ⟨d.x.toArray⟩) vk; have h3 := NdO.snoc d va vk H0 H.Pl ha hk (by rw [hE]; exact h1) h2; refine ⟨⟨_, _, H.topB h3 h2.size h2.other h2.blk⟩, Below.setCell (h2.below (fun k hk => (H0.lt k hk).1) hb) H.gnlt.1 _, ?_⟩; refine Still.trans ?_ (Still.set _ _ _ _ H.nPn); rcases h2 with ⟨_, h⟩ | ⟨h, _⟩
 · exact Still.of_gr h H0.low
 · exact Still.of_gr h (fun k e => by cases e)
theorem put_cB (base b : Nat) (P : Nat → Prop) (s : St) (d : Nd) (va vk : Value) (w : World) (hB : BdS w base b P s) (ha : AtP w P va d.a) (hk : NdS w P vk d.k) (hbw : base ≤ w.heap.size) (hx : (lsX s.1 s.2).length ≤ 1000000) (hl : s.2.length ≤ 1000000)
 (hno : d.n ≠ []) :
 Calls Tryz.prog 115 #[.pointer (some ⟨b, 0, none⟩), .agg #[.string ⟨d.n.toArray⟩, va, .string ⟨d.x.toArray⟩, vk]] w fun e w' => e = .returned (.tuple #[]) ∧ BdS w' base b P (put s d) ∧ Below base w w' ∧ Still P w w' := by
 obtain ⟨i0, hi, hz0, hz1, hz2⟩ := info_parts Tryz.infoNod; obtain ⟨gn, cn, vo, lv, v, oe, h⟩ := hB; obtain ⟨q1, q2, q3⟩ := put_ls s d; have hptl : pt (lsX s.1 s.2) d = lsX s.1 s.2 ++ [d] := pt_el _ _ hno; rw [hptl] at q2; have HFIN := Lib.hid (show ∀ W, (∃ v oe, BdR W base b P (lsI s.1 s.2) (lsX s.1 s.2 ++ [d]) (opO s.2) gn cn vo lv v oe) → BdS W base b P (put s d) from fun W hW => by
  obtain ⟨v, oe, hW⟩ := hW; refine ⟨gn, cn, vo, lv, v, oe, ?_⟩; rw [q1, q2, q3]; exact hW)
 clear hptl q1 q2 q3; have hne : d.n.isEmpty = false := by cases e : d.n <;> simp_all
 obtain ⟨c0, c1, f0, f1⟩ := h.cells; obtain ⟨n0, n1, n2⟩ := h.last; have hblt := h.blt; have hgn := h.gnlt; obtain ⟨e0, h0⟩ := h.top; obtain ⟨av, nv, cv0, rfl, -⟩ : ∃ a n c, va = .slice a n c ∧ n ≤ c := by obtain ⟨a, c, e, hc, -⟩ := ha; exact ⟨a, _, c, e, hc⟩
 obtain ⟨ak, nk, ck, rfl, -⟩ : ∃ a n c, vk = .slice a n c ∧ n ≤ c := by obtain ⟨a, c, e, hc, -⟩ := hk; exact ⟨a, _, c, e, hc⟩
 obtain ⟨ax, cx, hv, hxc⟩ := own_shp h0.row; have hel := h0.len; rw [hel] at hv hxc; have hvl : lv.length ≤ 1000000 := by rw [h.len, lsI_len]; exact hl
 have HX := Lib.hid hx; have hxl : (lsX s.1 s.2).length ≤ 1000000 := hx; obtain ⟨X, hX⟩ : ∃ X, X = lsX s.1 s.2 := ⟨_, rfl⟩; rw [← hX] at h hv hxc hel h0 HFIN hxl; subst hv; obtain ⟨N, hN⟩ : ∃ N, N = lv.length := ⟨_, rfl⟩; have H := Lib.hid h; rw [← hN] at c0 n0 n1 n2 hvl; have HN := Lib.hid hN; have HE := Lib.hid hel; have H0 := Lib.hid h0; have HA := Lib.hid ha; have HK := Lib.hid hk; have HNO := Lib.hid hno; clear h hX hx hN hel h0 ha hk hno; go_enter Tryz.func115, Tryz.ntmps115; go_wp2; go_region; go_wp2; have hel' : e0.length ≤ 1000000 := by have := HE.out; omega
 have HZ := Lib.hid (ndV_len e0); have hlt1 : (X.length : Int) < (X.length : Int) + 1 := by omega
 go_region_law (refine step_append_gr rfl (.tmp 54) (.tmp 57) 53 rfl base 76 i0 (.agg #[.string ⟨#[]⟩, .slice none 0 0, .string ⟨#[]⟩, .slice none 0 0]) 4 80 Tryz.underlying53 hi hz0 hz1 hz2 rfl (by decide) (.slice ax X.length cx) e0.length (ndV e0) (by simp [Act.eval, Act.put]) (own_bl' H0.out.row Bl.z) ⟨w.heap.size + 1, 0, none⟩ 1 1 [.string ⟨#[]⟩, .slice none 0 0, .string ⟨#[]⟩, .slice none 0 0] (by simp [Act.eval, Act.put]) rfl (new_cells2 w _ #[.string ⟨#[]⟩, .slice none 0 0, .string ⟨#[]⟩, .slice none 0 0] _) (by simp [Value.oneCell']) (by decide) (by unfold maxLen; omega) (by omega) (by simp; omega) ?_; intro v' wz hown' hgr; rw [HE.out] at hown'; obtain ⟨gv, cv, rfl, hcv⟩ := own_some hown'; have hg2 := hgr.of_bl (w := w) Bl.z; obtain ⟨k0, k1⟩ := H.out.keep hg2; rw [← HN.out] at k0 k1; obtain ⟨k2, k3⟩ := H.out.kept hg2 hown'; obtain ⟨m0, m1, m2, m3, m4, m5, m6, m7, m8⟩ := own_last4 hown' (by rw [HZ.out, HE.out]); have HG := Lib.hid hg2; have HW := Lib.hid hown'; clear hgr hg2 hown')
 all_goals
  go_wp2; go_end0; have key := put_end H.out H0.out HA.out HK.out hbw HG.out HE.out HW.out; rw [← HN.out] at key; refine ⟨rfl, HFIN.out _ ?_, ?_⟩
  · first | (with_reducible exact key.1) | (rw [sc_comm4 (h := k2)]; with_reducible exact key.1)
  · first | (with_reducible exact key.2) | (rw [sc_comm4 (h := k2)]; with_reducible exact key.2)
end Go.Proofs.YtamdlihgecpbkaaGreatDoor

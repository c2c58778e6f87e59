/- Trees: put, a text (printed by a program from put of an element). -/
import Derived.Test.YtamdlihgecpbkaaGreatDoorTreH
set_option maxRecDepth 100000
set_option maxHeartbeats 4000000
namespace Go.Proofs.YtamdlihgecpbkaaGreatDoor
open Go.RowKit
theorem NdO.lastc {w : World} {base n c0 : Nat} {P : Nat → Prop} {ao : Option Addr} {l : List Nd} {ents : List Nent} (h : NdO w base P (.slice ao n c0) l ents) (o : List Nd) (c : Nd) (he : l = o ++ [c]) :
 ∃ g, ao = some ⟨g, 0, none⟩ ∧ g < w.heap.size ∧ w.cell? ⟨g, o.length * 4, none⟩ = some (.string ⟨c.n.toArray⟩) ∧ w.cell? ⟨g, o.length * 4 + 2, none⟩ = some (.string ⟨c.x.toArray⟩) ∧ w.frozen? ⟨g, o.length * 4 + 2, none⟩ = false := by
 have hl := h.len; have h2 := h.row; have heq := h.eq; rcases h2.2 with ⟨e, h0⟩ | ⟨g, cap, cur, e, _, hg, _⟩
 · rw [he] at hl; simp at hl; omega
 · cases e; have hlt : o.length < ents.length := by rw [hl, he]; simp
   obtain ⟨t1, t2, t3, t4⟩ := ndV_get ents o.length hlt; have hc : ents[o.length].1 = c := by
    have : (ents.map (·.1))[o.length]? = some c := by rw [heq, he]; simp
    rw [List.getElem?_map, List.getElem?_eq_getElem hlt] at this; simpa using this
   rw [hc] at t1 t3; exact ⟨g, rfl, (Array.getElem?_eq_some_iff.1 hg).1, by rw [World.ownsRow.cellAt h2 _ (by omega)]; exact t1, by rw [World.ownsRow.cellAt h2 _ (by omega)]; exact t3, World.ownsRow.frozenAt h2 _⟩
theorem put_endA {w : World} {base b : Nat} {P : Nat → Prop} {li : List (List Nd)} {X o : List Nd} {t : List UInt8} {op : List (Nm × List Atr)} {gn cn gx cx : Nat} {vo : Value} {lv : List Value} {oe : List Oent} (H : BdR w base b P li X op gn cn vo lv (.slice (some ⟨gx, 0, none⟩) X.length cx) oe)
 (hX : X = o ++ [.mk [] [] t []]) (y : List UInt8) : BdR (w.setCell ⟨gx, o.length * 4 + 2, none⟩ (.string ⟨y.toArray⟩)) base b P li (o ++ [.mk [] [] y []]) op gn cn vo lv (.slice (some ⟨gx, 0, none⟩) X.length cx) oe ∧ Below base w (w.setCell ⟨gx, o.length * 4 + 2, none⟩ (.string ⟨y.toArray⟩)) ∧ Still P w (w.setCell ⟨gx, o.length * 4 + 2, none⟩ (.string ⟨y.toArray⟩)) := by
 obtain ⟨e0, h0⟩ := H.top; have hg := (h0.lt gx rfl).1; have h0' := h0; rw [hX] at h0'; obtain ⟨e1, h1⟩ := h0'.settext y; rw [← hX] at h1; refine ⟨H.topA h1 (by simp) fun k hk hn => Below.heap_setCell w _ _ k (fun e => hn (by simp [Value.ownBlock, e])), Below.setCell (Below.refl _ _) hg _, Still.set _ _ _ _ (h0.low gx rfl)⟩
theorem put_cA (base b : Nat) (P : Nat → Prop) (s : St) (d : Nd) (va vk : Value) (w : World) (hB : BdS w base b P s) (ha : AtP w P va d.a) (hk : NdS w P vk d.k) (hbw : base ≤ w.heap.size) (hx : (lsX s.1 s.2).length ≤ 1000000) (hl : s.2.length ≤ 1000000)
 (hno : d.n = []) (o : List Nd) (t : List UInt8) (hxe : lsX s.1 s.2 = o ++ [.mk [] [] t []]) (hts : t.length + d.x.length ≤ 1099511627776) :
 Calls Tryz.prog 115 #[.pointer (some ⟨b, 0, none⟩), .agg #[.string ⟨d.n.toArray⟩, va, .string ⟨d.x.toArray⟩, vk]] w fun e w' => e = .returned (.tuple #[]) ∧ BdS w' base b P (put s d) ∧ Below base w w' ∧ Still P w w' := by
 obtain ⟨i0, hi, hz0, hz1, hz2⟩ := info_parts Tryz.infoNod; obtain ⟨gn, cn, vo, lv, v, oe, h⟩ := hB; obtain ⟨q1, q2, q3⟩ := put_ls s d; have hptl : pt (lsX s.1 s.2) d = o ++ [.mk [] [] (t ++ d.x) []] := by rw [hxe]; unfold pt; simp [hno]
 rw [hptl] at q2; have HFIN := Lib.hid (show ∀ W, (∃ v oe, BdR W base b P (lsI s.1 s.2) (o ++ [.mk [] [] (t ++ d.x) []]) (opO s.2) gn cn vo lv v oe) → BdS W base b P (put s d) from fun W hW => by
  obtain ⟨v, oe, hW⟩ := hW; refine ⟨gn, cn, vo, lv, v, oe, ?_⟩; rw [q1, q2, q3]; exact hW)
 clear hptl q1 q2 q3; have hne : d.n = [] := hno; obtain ⟨c0, c1, f0, f1⟩ := h.cells; obtain ⟨n0, n1, n2⟩ := h.last; have hblt := h.blt; have hgn := h.gnlt; obtain ⟨e0, h0⟩ := h.top; obtain ⟨av, nv, cv0, rfl, -⟩ : ∃ a n c, va = .slice a n c ∧ n ≤ c := by obtain ⟨a, c, e, hc, -⟩ := ha; exact ⟨a, _, c, e, hc⟩
 obtain ⟨ak, nk, ck, rfl, -⟩ : ∃ a n c, vk = .slice a n c ∧ n ≤ c := by obtain ⟨a, c, e, hc, -⟩ := hk; exact ⟨a, _, c, e, hc⟩
 obtain ⟨ax, cx, hv, hxc⟩ := own_shp h0.row; have hel := h0.len; rw [hel] at hv hxc; have hvl : lv.length ≤ 1000000 := by rw [h.len, lsI_len]; exact hl
 have HX := Lib.hid hx; have hxl : (lsX s.1 s.2).length ≤ 1000000 := hx; obtain ⟨X, hX⟩ : ∃ X, X = lsX s.1 s.2 := ⟨_, rfl⟩; rw [← hX] at h hv hxc hel h0 hxl hxe; subst hv; have hXl : X.length = o.length + 1 := by rw [hxe]; simp
 have hX1 : (0 : Int) < (X.length : Int) := by omega
 obtain ⟨gx, rfl, x0, x1, x2, x3⟩ := h0.lastc o _ hxe; simp only [Nd.n, Nd.x] at x1 x2; have hi1 : (X.length : Int) - 1 = (o.length : Int) := by omega
 have hi2 : (o.length : Int) < (X.length : Int) := by omega
 obtain ⟨N, hN⟩ : ∃ N, N = lv.length := ⟨_, rfl⟩; have H := Lib.hid h; rw [← hN] at c0 n0 n1 n2 hvl; have HN := Lib.hid hN; have HE := Lib.hid hel; have H0 := Lib.hid h0; have HA := Lib.hid ha; have HK := Lib.hid hk; have HXE := Lib.hid hxe; clear h hX hx hN hel h0 ha hk hno hXl hxe; go_enter Tryz.func115, Tryz.ntmps115; go_wp2; go_region; go_wp2; have hw1 : IntKind.i64.wrap (o.length : Int) = (o.length : Int) := by go_arith
 have hw2 : IntKind.i64.wrap ((X.length : Int) - 1) = (o.length : Int) := by go_arith
 have hi3 : (0 : Int) ≤ (o.length : Int) := by omega
 go_region; all_goals
  go_wp2; obtain ⟨p1, p2, p3⟩ := put_endA H.out HXE.out (t ++ d.x); refine bodyPost_ret (results_none rfl _ _ _) rfl ⟨rfl, HFIN.out _ ⟨_, _, p1.of_bl Bl.z⟩, ?_⟩; refine ⟨by repeat (first | exact p2 | refine Below.drew ?_ | refine Below.alloc ?_ (Nat.le_trans hbw (by simp)) _), p3.trans (Still.of_bl Bl.z)⟩
end Go.Proofs.YtamdlihgecpbkaaGreatDoor

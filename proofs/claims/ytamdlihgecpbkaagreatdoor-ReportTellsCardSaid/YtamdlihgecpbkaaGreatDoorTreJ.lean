/- Trees: close. -/
import Derived.Test.YtamdlihgecpbkaaGreatDoorTreH
set_option maxRecDepth 100000
set_option maxHeartbeats 4000000
namespace Go.Proofs.YtamdlihgecpbkaaGreatDoor
open Go.RowKit
theorem list_snoc {α : Type} {l : List α} {n : Nat} (h : l.length = n + 1) : ∃ l0 x, l = l0 ++ [x] := by
 rcases List.eq_nil_or_concat l with rfl | ⟨l0, x, rfl⟩
 · simp at h
 · exact ⟨l0, x, by simp⟩
def lenO (b : Nat) (w : World) : Nat := match w.cell? ⟨b, 1, none⟩ with | some (.slice _ n _) => n | _ => 0
theorem BdS.lenO {w : World} {base b : Nat} {P : Nat → Prop} {s : St} (h : BdS w base b P s) : lenO b w = s.2.length := by
 obtain ⟨gn, cn, vo, lv, v, oe, h⟩ := h; obtain ⟨_, c1, _, _⟩ := h.cells; obtain ⟨ao, co, rfl, _⟩ := h.oc; unfold Go.Proofs.YtamdlihgecpbkaaGreatDoor.lenO; rw [c1]; simp only []; rw [← opO_len s.2, ← h.oeq, List.length_map]
theorem lsX_le (r : List Nd) (f : List (Nm × List Atr × List Nd)) : (lsX r f).length ≤ cntS (r, f) := by
 have hc : ∀ l : List Nd, l.length ≤ cntL l := by
  intro l; induction l with
  | nil => simp [cntL]
  | cons d l ih => cases d with
    | mk n a x k => simp only [List.length_cons, cntL, cntN]; omega
 cases f with
 | nil => have := hc r; simp only [lsX, cntS, cntF]; omega
 | cons c f => obtain ⟨n, a, k⟩ := c; have := hc k; simp only [lsX, cntS, cntF]; omega
theorem BdR.setb {w : World} {b : Nat} {a c : Value} {t : TypeId} (h : w.heap[b]? = some (.cells #[a, c] t (0, 0))) : w.cell? ⟨b, 0, none⟩ = some a ∧ w.cell? ⟨b, 1, none⟩ = some c ∧ w.frozen? ⟨b, 0, none⟩ = false ∧ w.frozen? ⟨b, 1, none⟩ = false := by
 simp [World.cell?, World.frozen?, h]
theorem close_c (base b : Nat) (P : Nat → Prop) (s : St) (m : Nat) (w : World) (hB : BdS w base b P s) (hbw : base ≤ w.heap.size) (hI : Iv s) (hc : cntS s ≤ 100000) :
 Calls Tryz.prog 80 #[.pointer (some ⟨b, 0, none⟩), .int .i64 m] w fun e w' => e = .returned (.tuple #[]) ∧ (∃ P', (∀ k, P k → P' k) ∧ BdS w' base b P' (pops (s.2.length - m) s)) ∧ Below base w w' ∧ Still P w w' := by
 have hsl := iv_len hI.1; go_enter Tryz.func80, Tryz.ntmps80; go_wp2; go_loopw [4] (fun _ wr => ∃ (j : Nat) (P' : Nat → Prop), j ≤ s.2.length - m ∧ (∀ k, P k → P' k) ∧ BdS wr base b P' (pops j s) ∧ Below base w wr ∧ Still P w wr) (fun _ wr => lenO b wr); case atStart => exact ⟨0, P, Nat.zero_le _, fun _ h => h, hB, Below.refl _ _, Still.refl _ _⟩
 case round =>
  obtain ⟨j, P', hj, hPP, hB', hbl, hst⟩ := hrel; have hbr := Nat.le_trans hbw (Below.size hbl); have hmeas := hB'.lenO; have hI' := iv_pops j hI; have hc' := Nat.le_trans (pops_cnt j s) hc; have hsl' := pops_len j s; obtain ⟨S, hS⟩ : ∃ S, S = pops j s := ⟨_, rfl⟩; have HS := Lib.hid hS; rw [← hS] at hB' hmeas hI' hc' hsl'; clear hS; obtain ⟨gn, cn, vo, lv, v, oe, h⟩ := hB'; obtain ⟨c0, c1, f0, f1⟩ := h.cells; have hblt := h.blt; have hoe : oe.length = S.2.length := by rw [← opO_len S.2, ← h.oeq, List.length_map]
  obtain ⟨ao, co, rfl, hco, hoc⟩ := h.oc; by_cases hlt : m < S.2.length
  · obtain ⟨r, f⟩ := S; cases f with
    | nil => simp at hlt
    | cons c f =>
      obtain ⟨nm, at', k⟩ := c; have h' : BdR wr base b P' (lsI r f ++ [lsX r f]) k (opO f ++ [(nm, at')]) gn cn (.slice ao oe.length co) lv v oe := h; have hl1 : lv.length = f.length + 1 := by rw [h'.len]; simp [lsI_len]
      have hl2 : oe.length = f.length + 1 := by rw [hoe]; rfl
      obtain ⟨lv0, u, rfl⟩ := list_snoc hl1; obtain ⟨oe0, p, rfl⟩ := list_snoc hl2; have hl3 : lv0.length = f.length := by simpa using hl1
      have hl4 : oe0.length = f.length := by simpa using hl2
      have hp : p.1 = (nm, at') := by
       have := h'.oeq; rw [List.map_append, List.map_singleton] at this; have := (List.append_inj' this rfl).2; simpa using this
      obtain ⟨go, rfl, hgo, o0, o1, o2, o3⟩ := hoc f.length (by omega); have hpe : (oe0 ++ [p])[f.length]'(by omega) = p := by simp [← hl4]
      rw [hpe] at o0 o1; rw [hp] at o0; obtain ⟨av, nv, cv, ev⟩ : ∃ a n c, p.2 = .slice a n c := by obtain ⟨a, c, e, -⟩ := h'.oat p (by simp); exact ⟨a, _, c, e⟩
      obtain ⟨n0, n1, n2⟩ := h'.last; obtain ⟨e0, h0⟩ := h'.top; obtain ⟨ax, cx, rfl, hcx⟩ := own_shp h0.row; rw [hl1] at c0 n0 n1 n2; rw [hl2] at c1 hco; rw [ev] at o1; have hde := h'; rw [show (oe0 ++ [p]).length = oe0.length + 1 by simp, ← hp] at hde; obtain ⟨d1, d2, d3⟩ := hde.drop; obtain ⟨P2, hP2⟩ : ∃ P2 : Nat → Prop, P2 = fun q => P' q ∨ (Value.slice ax e0.length cx).ownBlock = some q := ⟨_, rfl⟩
      rw [← hP2, hp, ev] at d2; rw [← hP2] at d3 d1; rw [hl3, hl4] at d1 d2 d3; have hB2 : BdS ((wr.setCell ⟨b, 1, none⟩ (.slice (some ⟨go, 0, none⟩) f.length co)).setCell ⟨b, 0, none⟩ (.slice (some ⟨gn, 0, none⟩) (f.length + 1) cn)) base b P2 (r, f) := ⟨_, _, _, _, _, _, d1⟩; have hnn : nm ≠ [] := hI'.1.1; have PC := Lib.hid (fun (W : World) (hb : Bl ((wr.setCell ⟨b, 1, none⟩ (.slice (some ⟨go, 0, none⟩) f.length co)).setCell ⟨b, 0, none⟩ (.slice (some ⟨gn, 0, none⟩) (f.length + 1) cn)) W) =>
       (show Calls Tryz.prog 115 #[.pointer (some ⟨b, 0, none⟩), .agg #[.string ⟨nm.toArray⟩, .slice av nv cv, .string ⟨#[]⟩, .slice ax e0.length cx]] W (fun e w' => e = .returned (.tuple #[]) ∧ BdS w' base b P2 (pop (r, (nm, at', k) :: f)) ∧ Below base W w' ∧ Still P2 W w') from
        put_cB base b P2 (r, f) (.mk nm at' [] k) _ _ W (hB2.of_bl hb) (d2.still (Still.of_bl hb)) (d3.of_bl hb) (Nat.le_trans hbr (by have := Below.size hb; simpa using this)) (by
         have h1 := lsX_le r f; simp only [cntS, cntF] at h1 hc'; show (lsX r f).length ≤ 1000000; omega) (by have := hsl'; simp only [List.length_cons] at this; show f.length ≤ 1000000; omega) hnn))
      have hn2 : (f.length : Int) + 1 ≤ (co : Int) := by omega
      have hn3 : (f.length : Int) + 1 + 1 ≤ (cn : Int) := by omega
      have hmj : (m : Int) < (f.length : Int) + 1 := by simp only [List.length_cons] at hlt; omega
      have hfl : f.length ≤ 8 := by simp only [List.length_cons] at hsl'; omega
      have hjm : j + 1 ≤ s.2.length - m := by simp only [List.length_cons] at hsl' hlt; omega
      have hPP2 : ∀ q, P q → P2 q := fun q hq => by rw [hP2]; exact .inl (hPP q hq)
      have hnb : ¬ P b := fun hq => h'.nPb (hPP b hq)
      have HSP := Lib.hid (show pop (r, (nm, at', k) :: f) = pops (j + 1) s by rw [pops_add, ← HS.out]; rfl); have HM := Lib.hid hmeas; have HBL := Lib.hid (And.intro hbl hst); have hgl := h'.gnlt; have hbas := h'.bas; have hbg := h'.bgn; have hln : (lv0 ++ [u]).length = f.length + 1 := hl1; clear hoc hpe hp hB2 d1 d2 d3 hP2 h h' hde h0 hB hI hI' hc hc' hl1 hl2 hl3 hl4 hoe hmeas hbl hst hPP hnn hlt hsl'; go_wp2_with fail; have hw1 : IntKind.i64.wrap ((f.length : Int) + 1) = (f.length : Int) + 1 := by go_arith
      have hs1 : (0 : Int) ≤ (f.length : Int) := by omega
      have hs2 : (f.length : Int) ≤ (co : Int) := by omega
      have hs3 : (f.length : Int) + 1 ≤ (cn : Int) := by omega
      have hs4 : (0 : Int) ≤ (f.length : Int) + 1 := by omega
      have hs5 : ((f.length : Int) + 1).toNat = f.length + 1 := by omega
      go_region; have hbl2 : Bl ((wr.setCell ⟨b, 1, none⟩ (.slice (some ⟨go, 0, none⟩) f.length co)).setCell ⟨b, 0, none⟩ (.slice (some ⟨gn, 0, none⟩) (f.length + 1) cn)) ((((wr.setCell ⟨b, 1, none⟩ (.slice (some ⟨go, 0, none⟩) f.length co)).setCell ⟨b, 0, none⟩ (.slice (some ⟨gn, 0, none⟩) (f.length + 1) cn)).alloc (.cells #[.string ⟨nm.toArray⟩, .slice av nv cv, .string ⟨#[]⟩, .slice ax e0.length cx] 76)).drew) := Below.drew ((Bl.refl _).alloc _); have hbw2 : Below base wr ((((wr.setCell ⟨b, 1, none⟩ (.slice (some ⟨go, 0, none⟩) f.length co)).setCell ⟨b, 0, none⟩ (.slice (some ⟨gn, 0, none⟩) (f.length + 1) cn)).alloc (.cells #[.string ⟨nm.toArray⟩, .slice av nv cv, .string ⟨#[]⟩, .slice ax e0.length cx] 76)).drew) := Below.drew (Below.alloc (Below.setCell (Below.setCell (Below.refl _ _) hbas _) hbas _) (by simpa using hbr) _); have hst2 : Still P wr ((((wr.setCell ⟨b, 1, none⟩ (.slice (some ⟨go, 0, none⟩) f.length co)).setCell ⟨b, 0, none⟩ (.slice (some ⟨gn, 0, none⟩) (f.length + 1) cn)).alloc (.cells #[.string ⟨nm.toArray⟩, .slice av nv cv, .string ⟨#[]⟩, .slice ax e0.length cx] 76)).drew) := ((Still.set _ _ _ _ hnb).trans (Still.set _ _ _ _ hnb)).trans (Still.of_bl hbl2); have HZ2 := Lib.hid hst2; clear hst2; have HX2 := Lib.hid hbw2; have HY2 := Lib.hid hbl2; clear hbw2 hbl2; go_wp2_with (go_at_call 115; (with_reducible refine (PC.out _ HY2.out).mono ?_); rintro e w2 ⟨rfl, hB2, hb2, hs2⟩); have hm2 := hB2.lenO; go_roundw; case rel => exact ⟨j + 1, P2, hjm, hPP2, by rw [← HSP.out]; exact hB2, Below.trans HBL.out.1 (Below.trans HX2.out hb2), HBL.out.2.trans (HZ2.out.trans (hs2.mono hPP2))⟩
      case measure =>
       rw [hm2, HM.out]; show (put (r, f) _).2.length < _; rw [put_len]; simp
  · have HE := Lib.hid (show j = s.2.length - m by omega); have hlt' : ¬ ((m : Int) < (oe.length : Int)) := by omega
    clear hoc; go_wp2; go_end0; exact ⟨rfl, ⟨P', hPP, by rw [← HE.out, ← HS.out]; exact ⟨gn, cn, _, lv, v, oe, h⟩⟩, hbl, hst⟩
end Go.Proofs.YtamdlihgecpbkaaGreatDoor

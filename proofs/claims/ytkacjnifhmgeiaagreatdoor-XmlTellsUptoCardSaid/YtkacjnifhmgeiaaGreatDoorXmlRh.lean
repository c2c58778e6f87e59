/- Documents, the reference: what the walk of kids carries along. -/
import Derived.Test.YtkacjnifhmgeiaaGreatDoorXmlRg
import Derived.Test.YtkacjnifhmgeiaaGreatDoorXmlI
namespace Go.Proofs.YtkacjnifhmgeiaaGreatDoor
open Go.RowKit

/-- What does not panic. -/
def np (Q : Exit → Act → World → Prop) : Exit → Act → World → Prop
  | .panic _, _, _ => False
  | e, a, w => Q e a w
theorem np_of {Q : Exit → Act → World → Prop} {e : Exit} {a : Act} {w : World} (h : np Q e a w) : Q e a w := by
  cases e <;> first | exact h | exact h.elim
structure Ky (w : World) (b base base2 : Nat) (s n : List UInt8) (va : Value) (a : List Atr) (P : Nat → Prop) (out : List Nd) (ents : List Nent) (u : List UInt8) (e : Int) (vk : Value) (wx : World) : Prop where
  cx : Cx w b n va vk wx
  at_ : AtP wx (fun k => base ≤ k ∧ k < base2) va a
  no : NdO wx base2 P vk out ents
  pb : ∀ k, P k → base2 ≤ k ∧ k < wx.heap.size
  rd : Yr wx b s u e
  lb : b < base
  lq : w.heap.size + 2 ≤ base
  lbb : base ≤ base2
  sz : base2 ≤ wx.heap.size
section
variable {w wx wy wz : World} {b base base2 : Nat} {s n u u' : List UInt8} {va vk v' : Value} {a : List Atr} {P : Nat → Prop} {out : List Nd} {ents : List Nent} {e e' : Int}
theorem Ky.of_gb (h : Ky w b base base2 s n va a P out ents u e vk wx) (hg : wx.grownBy wy (some b)) (hR : Yr wy b s u' e') : Ky w b base base2 s n va a P out ents u' e' vk wy := by
  have h1 := h.lb
  have h2 := h.lbb
  exact ⟨h.cx.of_gb hg, h.at_.still (Still.of_gr hg (by rintro k hk; cases hk; omega)), h.no.of_gb hg (fun k hk => (h.pb k hk).1) (by omega), fun k hk => ⟨(h.pb k hk).1, Nat.lt_of_lt_of_le (h.pb k hk).2 hg.size⟩, hR, h.lb, h.lq, h.lbb, Nat.le_trans h.sz hg.size⟩
theorem Ky.of_bl (h : Ky w b base base2 s n va a P out ents u e vk wx) (hb : Bl wx wy) : Ky w b base base2 s n va a P out ents u e vk wy := h.of_gb (gb_bl hb) (h.rd.of_bl hb)
theorem Ky.shape (h : Ky w b base base2 s n va a P out ents u e vk wx) : ∃ a2 c2, vk = .slice a2 ents.length c2 := by
  obtain ⟨a2, c2, e, -⟩ := own_shp h.no.row
  exact ⟨a2, c2, e⟩
theorem Yr.below {w wz : World} {b base : Nat} {s t : List UInt8} {e : Int} (h : Yr w b s t e) (hb : Below base w wz) (hlt : b < base) : Yr wz b s t e :=
  ⟨by have := h.rk; unfold Yk at *; rw [Below.block hb b hlt]; exact this, h.sf⟩
/-- New kids, not yet laid in the node. -/
structure Kz (w : World) (b base base2 : Nat) (s n : List UInt8) (va : Value) (a : List Atr) (P : Nat → Prop) (out : List Nd) (ents : List Nent) (u : List UInt8) (e : Int) (vk v' : Value) (wx : World) : Prop where
  cx : Cx w b n va vk wx
  at_ : AtP wx (fun k => base ≤ k ∧ k < base2) va a
  no : NdO wx base2 P v' out ents
  pb : ∀ k, P k → base2 ≤ k ∧ k < wx.heap.size
  rd : Yr wx b s u e
  lb : b < base
  lq : w.heap.size + 2 ≤ base
  lbb : base ≤ base2
  sz : base2 ≤ wx.heap.size
theorem Ky.text (h : Ky w b base base2 s n va a P out ents u e vk wx) {out' : List Nd} {ents' : List Nent} (hN : NdO wz base2 P v' out' ents') (hb : Below base2 wx wz) : Kz w b base base2 s n va a P out' ents' u e vk v' wz := by
  have h1 := h.lb
  have h2 := h.lbb
  have h3 := h.lq
  have hs := Below.size hb
  exact ⟨h.cx.below hb (by omega), h.at_.still ⟨hs, fun k _ hp => Below.block hb k hp.2⟩, hN, fun k hk => ⟨(h.pb k hk).1, Nat.lt_of_lt_of_le (h.pb k hk).2 hs⟩, h.rd.below hb (by omega), h.lb, h.lq, h.lbb, Nat.le_trans h.sz hs⟩
/-- They are laid in the node. -/
theorem Kz.set (h : Kz w b base base2 s n va a P out ents u e vk v' wx) : Ky w b base base2 s n va a P out ents u e v' (wx.setCell ⟨w.heap.size + 1, 3, none⟩ v') := by
  have h1 := h.lb
  have h2 := h.lbb
  have h3 := h.lq
  refine ⟨h.cx.set3 v', h.at_.still (Still.set _ _ _ _ (by omega)), h.no.still (Still.set _ _ _ _ ?_), fun k hk => by simpa using h.pb k hk, h.rd.far (by have := h.cx.lt; omega), h1, h3, h2, by simpa using h.sz⟩
  rintro (hp | ho)
  · have := (h.pb _ hp).1; omega
  · have := (h.no.lt _ ho).1; omega
theorem Kz.shape (h : Kz w b base base2 s n va a P out ents u e vk v' wx) : ∃ a2 c2, v' = .slice a2 ents.length c2 := by
  obtain ⟨a2, c2, e, -⟩ := own_shp h.no.row
  exact ⟨a2, c2, e⟩
/-- A kid more. -/
theorem Ky.more (h : Ky w b base base2 s n va a P out ents u e vk wx) {w6 : World} {wa wk : Value} (d : Nd) {Q : Nat → Prop} (hg : wx.grownBy wy (some b)) (hR : Yr wy b s u' e') (ha : AtP wy Q wa d.a) (hk : NdS wy Q wk d.k) (hQ : ∀ k, Q k → wx.heap.size ≤ k ∧ k < wy.heap.size) (hb : Bl wy w6)
    (hown : wz.ownsRow base2 25 4 v' (ents.length + 1) (ndV ents ++ [.string ⟨d.n.toArray⟩, wa, .string ⟨d.x.toArray⟩, wk])) (hgr : Grew w6 wz vk v') :
    ∃ ents', Kz w b base base2 s n va a (fun k => P k ∨ Q k) (out ++ [d]) ents' u' e' vk v' wz := by
  have K2 := h.of_gb hg hR
  have H3 : NdO wy base2 (fun k => P k ∨ Q k) vk out ents := K2.no.mono (fun k h => Or.inl h) (fun k e hpq => by
    rcases hpq with hp | hp
    · exact K2.no.low k e hp
    · have := (h.no.lt k e).2; have := (hQ k hp).1; omega)
  have hs2 := hg.size
  have hs6 := Below.size hb
  obtain ⟨h1, h2⟩ := jt_more d H3 (fun k hk => by
    rcases hk with h9 | h9
    · exact (K2.pb k h9).2
    · exact (hQ k h9).2) K2.sz hb ((ha.still (Still.of_bl hb)).mono (fun k h => Or.inr h)) ((hk.of_bl hb).mono (fun k h => Or.inr h)) hown hgr
  have hsz := Below.size h2
  have hlb := h.lb
  have hbb := h.lbb
  have hlq := h.lq
  have hsx := h.sz
  refine ⟨_, K2.cx.below h2 (by omega), K2.at_.still ⟨hsz, fun k _ hp => Below.block h2 k hp.2⟩, h1, fun k hk => ?_, K2.rd.below h2 (by omega), hlb, hlq, hbb, Nat.le_trans K2.sz hsz⟩
  rcases hk with h9 | h9
  · exact ⟨(h.pb k h9).1, by have := (K2.pb k h9).2; omega⟩
  · exact ⟨by have := (hQ k h9).1; omega, by have := (hQ k h9).2; omega⟩
theorem Ky.cells (h : Ky w b base base2 s n va a P out ents u e vk wx) : (wx.cell? ⟨b, 0, none⟩ = some (.string ⟨s.toArray⟩) ∧ wx.cell? ⟨b, 2, none⟩ = some (.int .i64 e) ∧ wx.frozen? ⟨b, 1, none⟩ = false) ∧
    (wx.cell? ⟨w.heap.size + 1, 3, none⟩ = some vk ∧ wx.frozen? ⟨w.heap.size + 1, 3, none⟩ = false) := by
  obtain ⟨c0, c1, c2, f0, f1, f2⟩ := h.rd.rk.cells
  obtain ⟨m0, m1, m2, m3, g0, g1, g2, g3⟩ := h.cx.nb.cells
  exact ⟨⟨c0, c2, f1⟩, ⟨m3, g3⟩⟩
end
/-- What is no kid has been put behind the kids. -/
theorem Ky.spoil {w wx wy w6 wz : World} {b base base2 : Nat} {s n u u' : List UInt8} {va vk v' : Value} {a : List Atr} {P : Nat → Prop} {out : List Nd} {ents : List Nent} {e e' : Int} (h : Ky w b base base2 s n va a P out ents u e vk wx) (hg : wx.grownBy wy (some b)) (hR : Yr wy b s u' e') (hb : Bl wy w6) (hgr : Grew w6 wz vk v') :
    Cx w b n va vk wz ∧ Cx w b n va v' (wz.setCell ⟨w.heap.size + 1, 3, none⟩ v') ∧ AtP (wz.setCell ⟨w.heap.size + 1, 3, none⟩ v') (fun k => base ≤ k ∧ k < base2) va a ∧ Yr (wz.setCell ⟨w.heap.size + 1, 3, none⟩ v') b s u' e' ∧ base2 ≤ (wz.setCell ⟨w.heap.size + 1, 3, none⟩ v').heap.size := by
  have K2 := h.of_gb hg hR
  have hs6 := Below.size hb
  have hsz := K2.sz
  have hlb := h.lb
  have hbb := h.lbb
  have hlq := h.lq
  have hB : Below base2 wy wz := by
    refine Below.trans (Below.mono hb hsz) ?_
    rcases hgr with ⟨_, hg2⟩ | ⟨hg2, _⟩
    · exact below_gr hg2 (fun j hj => (K2.no.lt j hj).1) (by omega)
    · exact below_gr hg2 (fun j hj => by cases hj) (by omega)
  have hC := K2.cx.below hB (by omega)
  have hA := K2.at_.still ⟨Below.size hB, fun k _ hp => Below.block hB k hp.2⟩
  have hR2 := K2.rd.below hB (by omega)
  refine ⟨hC, hC.set3 v', hA.still (Still.set _ _ _ _ (by omega)), hR2.far (by have := h.cx.lt; omega), ?_⟩
  have := Below.size hB
  simp only [World.size_setCell]
  omega
/-- At the end of a round of kids. -/
def KyRound (w : World) (b base base2 : Nat) (s n : List UInt8) (a1 : Option Addr) (l1 c1 : Nat) (a : List Atr) (k deep : Nat) (t3 : List UInt8) (T : Nat) (wx : World) : Prop :=
  base2 ≤ wx.heap.size ∧ KyHead w b base base2 s n a1 l1 c1 a k deep t3 wx ∧ (if eOf b wx = 0 then s.length - atOf b wx + 1 else 0) < T + 1
section
variable {w wx : World} {b base base2 k deep T : Nat} {s n t3 t' : List UInt8} {a1 a2 : Option Addr} {l1 c1 l2 c2 : Nat} {a : List Atr} {P : Nat → Prop} {out : List Nd} {ents : List Nent} {e : Int}
theorem ky_err (h : Ky w b base base2 s n (.slice a1 l1 c1) a P out ents t' e (.slice a2 l2 c2) wx) (he : e ≠ 0) (hE : kiF k deep t3 [] = .error e) : KyRound w b base base2 s n a1 l1 c1 a k deep t3 T wx :=
  ⟨h.sz, ⟨h.at_, a2, l2, c2, h.cx, .inl ⟨e, t', Lib.hid ⟨hE, he⟩, h.rd⟩⟩, by rw [if_neg (by rw [h.rd.e_eq]; omega)]; omega⟩
theorem ky_bad (hz : base2 ≤ wx.heap.size) (hA : AtP wx (fun k => base ≤ k ∧ k < base2) (.slice a1 l1 c1) a) (hC : Cx w b n (.slice a1 l1 c1) (.slice a2 l2 c2) wx) (hR : Yr wx b s t' e) (he : e ≠ 0) (hE : kiF k deep t3 [] = .error e) : KyRound w b base base2 s n a1 l1 c1 a k deep t3 T wx :=
  ⟨hz, ⟨hA, a2, l2, c2, hC, .inl ⟨e, t', Lib.hid ⟨hE, he⟩, hR⟩⟩, by rw [if_neg (by rw [hR.e_eq]; omega)]; omega⟩
theorem ky_next {j : Nat} (h : Ky w b base base2 s n (.slice a1 l1 c1) a P out ents t' 0 (.slice a2 l2 c2) wx) (hE : kiF k deep t3 [] = kiF (j + 1) deep t' out) (hj : 2 * t'.length + 2 ≤ j + 1) (hjk : j < k) (hol : out.length + t'.length ≤ s.length) (hx : ∀ c ∈ out, c.x.length + 4 * t'.length ≤ 4 * s.length) (hT : t'.length < T) :
    KyRound w b base base2 s n a1 l1 c1 a k deep t3 T wx :=
  ⟨h.sz, ⟨h.at_, a2, l2, c2, h.cx, .inr ⟨t', out, P, ents, j, Lib.hid hE, hj, hjk, h.no, Lib.hid h.pb, h.rd, hol, Lib.hid hx⟩⟩, by rw [if_pos (by rw [h.rd.e_eq]; rfl), h.rd.meas]; omega⟩
end
end Go.Proofs.YtkacjnifhmgeiaaGreatDoor

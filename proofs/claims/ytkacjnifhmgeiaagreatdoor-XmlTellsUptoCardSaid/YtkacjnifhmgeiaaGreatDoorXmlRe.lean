/- Documents, the reference: what an element's walk carries along. -/
import Derived.Test.YtkacjnifhmgeiaaGreatDoorXmlRd
namespace Go.Proofs.YtkacjnifhmgeiaaGreatDoor
open Go.RowKit

/-- The node of the walk and the place of its result. -/
structure Cx (w : World) (b : Nat) (n : List UInt8) (va vk : Value) (wx : World) : Prop where
  gb : w.grownBy wx (some b)
  lt : b < w.heap.size
  nb : Nb wx (w.heap.size + 1) n va [] vk
  zb : Nb wx w.heap.size [] (.slice none 0 0) [] (.slice none 0 0)
section
variable {w wx wy : World} {b : Nat} {n : List UInt8} {va vk : Value}
theorem Cx.of_gb (h : Cx w b n va vk wx) (hg : wx.grownBy wy (some b)) : Cx w b n va vk wy := by
  have := h.lt
  exact ⟨gb_trans h.gb hg, h.lt, h.nb.of_gb hg (by simp; omega), h.zb.of_gb hg (by simp; omega)⟩
theorem Cx.of_bl (h : Cx w b n va vk wx) (hb : Bl wx wy) : Cx w b n va vk wy := h.of_gb (gb_bl hb)
theorem Cx.far (h : Cx w b n va vk wx) {r o : Nat} {u : Value} (hr : w.heap.size + 1 < r) : Cx w b n va vk (wx.setCell ⟨r, o, none⟩ u) :=
  ⟨gb_setnew h.gb (by omega) _ _, h.lt, h.nb.far (by omega), h.zb.far (by omega)⟩
theorem Cx.setb (h : Cx w b n va vk wx) {o : Nat} {u : Value} : Cx w b n va vk (wx.setCell ⟨b, o, none⟩ u) := h.of_gb (gb_set (gb_refl _ _) _ _)
theorem Nb.set0 {w : World} {q : Nat} {n x m : List UInt8} {va vk : Value} (h : Nb w q n va x vk) : Nb (w.setCell ⟨q, 0, none⟩ (.string ⟨m.toArray⟩)) q m va x vk := by
  unfold Nb at *
  simp [World.setCell, h, Array.getElem?_modify]
theorem Cx.set0 (h : Cx w b n va vk wx) (m : List UInt8) : Cx w b m va vk (wx.setCell ⟨w.heap.size + 1, 0, none⟩ (.string ⟨m.toArray⟩)) :=
  ⟨gb_setnew h.gb (by omega) _ _, h.lt, h.nb.set0, h.zb.far (by omega)⟩
theorem Cx.set1 (h : Cx w b n va vk wx) (u : Value) : Cx w b n u vk (wx.setCell ⟨w.heap.size + 1, 1, none⟩ u) :=
  ⟨gb_setnew h.gb (by omega) _ _, h.lt, h.nb.set1 u, h.zb.far (by omega)⟩
theorem Cx.set3 (h : Cx w b n va vk wx) (u : Value) : Cx w b n va u (wx.setCell ⟨w.heap.size + 1, 3, none⟩ u) :=
  ⟨gb_setnew h.gb (by omega) _ _, h.lt, h.nb.set3 u, h.zb.far (by omega)⟩
theorem Cx.size (h : Cx w b n va vk wx) : w.heap.size + 2 ≤ wx.heap.size := h.nb.lt
theorem Cx.of_fresh (h : Cx w b n va vk wx) {g : Option Nat} (hg : wx.grownBy wy g) (hn : ∀ j, g = some j → w.heap.size + 2 ≤ j) : Cx w b n va vk wy := by
  refine ⟨gb_fresh h.gb hg (fun k hk => by have := hn k hk; omega), h.lt, h.nb.of_gb hg ?_, h.zb.of_gb hg ?_⟩
  · intro e; have := hn _ e.symm; omega
  · intro e; have := hn _ e.symm; omega
theorem Cx.below {base : Nat} (h : Cx w b n va vk wx) (hb : Below base wx wy) (hl : w.heap.size + 2 ≤ base) : Cx w b n va vk wy :=
  ⟨gb_below h.gb (hb.mono (by omega)), h.lt, by have := h.nb; unfold Nb at *; rw [Below.block hb _ (by omega)]; exact this, by have := h.zb; unfold Nb at *; rw [Below.block hb _ (by omega)]; exact this⟩
theorem cx_new (w : World) (b : Nat) (hb : b < w.heap.size) : Cx w b [] (.slice none 0 0) (.slice none 0 0) ((w.alloc (.cells #[.string ⟨#[]⟩, .slice none 0 0, .string ⟨#[]⟩, .slice none 0 0] 25)).alloc (.cells #[.string ⟨#[]⟩, .slice none 0 0, .string ⟨#[]⟩, .slice none 0 0] 25)) := by
  refine ⟨gb_bl (((Bl.refl _).alloc _).alloc _), hb, ?_, ?_⟩
  · have := nb_new (w.alloc (.cells #[.string ⟨#[]⟩, .slice none 0 0, .string ⟨#[]⟩, .slice none 0 0] 25)) []
    rw [alloc_size] at this
    exact this
  · exact (nb_new w []).of_bl ((Bl.refl _).alloc _)
/-- The result's cells, written. -/
theorem Cx.fin (h : Cx w b n va vk wx) : (fin4 wx w.heap.size (.string ⟨n.toArray⟩) va (.string ⟨([] : List UInt8).toArray⟩) vk).cell? ⟨w.heap.size, 0, none⟩ = some (.string ⟨n.toArray⟩) ∧ (fin4 wx w.heap.size (.string ⟨n.toArray⟩) va (.string ⟨([] : List UInt8).toArray⟩) vk).cell? ⟨w.heap.size, 1, none⟩ = some va ∧ (fin4 wx w.heap.size (.string ⟨n.toArray⟩) va (.string ⟨([] : List UInt8).toArray⟩) vk).cell? ⟨w.heap.size, 2, none⟩ = some (.string ⟨([] : List UInt8).toArray⟩) ∧ (fin4 wx w.heap.size (.string ⟨n.toArray⟩) va (.string ⟨([] : List UInt8).toArray⟩) vk).cell? ⟨w.heap.size, 3, none⟩ = some vk := by
  obtain ⟨h0, h1, h2, h3, -⟩ := (fin4_nb (n := n) (va := va) (x := []) (vk := vk) h.zb).cells
  exact ⟨h0, h1, h2, h3⟩
end
theorem fin4_yr {W : World} {q b : Nat} {s t : List UInt8} {e : Int} {v0 v1 v2 v3 : Value} (h : Yr W b s t e) (hne : b ≠ q) : Yr (fin4 W q v0 v1 v2 v3) b s t e := (((h.far hne).far hne).far hne).far hne
/-- What is handed back beside an error. -/
def BadN (v : Value) : Prop := ∃ (n : List UInt8) (a1 a2 : Option Addr) (l1 c1 l2 c2 : Nat), v = .agg #[.string ⟨n.toArray⟩, .slice a1 l1 c1, .string ⟨([] : List UInt8).toArray⟩, .slice a2 l2 c2]
/-- How the reference's element ends. -/
def EyEnd (w0 : World) (b : Nat) (s : List UInt8) (R : Except Int (Nd × List UInt8)) (e : Ending) (w' : World) : Prop :=
  w0.grownBy w' (some b) ∧ match R with
    | .error n => n ≠ 0 ∧ ∃ v t', e = .returned v ∧ BadN v ∧ Yr w' b s t' n
    | .ok (d, u) => ∃ va vk, e = .returned (.agg #[.string ⟨d.n.toArray⟩, va, .string ⟨d.x.toArray⟩, vk]) ∧ Yr w' b s u 0 ∧ ∃ P, AtP w' P va d.a ∧ NdS w' P vk d.k ∧ ∀ k, P k → w0.heap.size ≤ k ∧ k < w'.heap.size
def EyC (b : Nat) (s : List UInt8) (k : Nat) : Prop := ∀ (deep : Nat) (t : List UInt8) (w : World), 2 * t.length + 1 ≤ k → deep ≤ 9 → Yr w b s t 0 →
  Calls Tryz.prog 22 #[.pointer (some ⟨b, 0, none⟩), .int .i64 (deep : Int)] w (EyEnd w b s (elF k deep t))
section
variable {w wx : World} {b : Nat} {n : List UInt8}
theorem ey_bad {a1 a2 : Option Addr} {l1 c1 l2 c2 : Nat} {s t' : List UInt8} {e : Int} {R : Except Int (Nd × List UInt8)} (h : Cx w b n (.slice a1 l1 c1) (.slice a2 l2 c2) wx) (hR : Yr wx b s t' e) (he : e ≠ 0) (hE : R = .error e) :
    EyEnd w b s R (.returned (.agg #[.string ⟨n.toArray⟩, .slice a1 l1 c1, .string ⟨([] : List UInt8).toArray⟩, .slice a2 l2 c2])) (fin4 wx w.heap.size (.string ⟨n.toArray⟩) (.slice a1 l1 c1) (.string ⟨([] : List UInt8).toArray⟩) (.slice a2 l2 c2)) := by
  subst hE
  have := h.lt
  exact ⟨fin4_gb h.gb (Nat.le_refl _), he, _, t', rfl, ⟨n, a1, a2, l1, c1, l2, c2, rfl⟩, fin4_yr hR (by omega)⟩
theorem ey_good {a1 a2 : Option Addr} {l1 c1 l2 c2 : Nat} {s u : List UInt8} {R : Except Int (Nd × List UInt8)} {P : Nat → Prop} {a : List Atr} {l : List Nd} (h : Cx w b n (.slice a1 l1 c1) (.slice a2 l2 c2) wx) (hR : Yr wx b s u 0)
    (hA : AtP wx P (.slice a1 l1 c1) a) (hK : NdS wx P (.slice a2 l2 c2) l) (hP : ∀ k, P k → w.heap.size + 2 ≤ k ∧ k < wx.heap.size) (hE : R = .ok (.mk n a [] l, u)) :
    EyEnd w b s R (.returned (.agg #[.string ⟨n.toArray⟩, .slice a1 l1 c1, .string ⟨([] : List UInt8).toArray⟩, .slice a2 l2 c2])) (fin4 wx w.heap.size (.string ⟨n.toArray⟩) (.slice a1 l1 c1) (.string ⟨([] : List UInt8).toArray⟩) (.slice a2 l2 c2)) := by
  subst hE
  have := h.lt
  have hz : ¬ P w.heap.size := fun hp => by have := (hP _ hp).1; omega
  refine ⟨fin4_gb h.gb (Nat.le_refl _), _, _, rfl, fin4_yr hR (by omega), P, hA.still (fin4_still hz), hK.still (fin4_still hz), fun k hk => ?_⟩
  rw [fin4_size]
  have := hP k hk
  exact ⟨by omega, this.2⟩
end
theorem tiX_err {t : List UInt8} {n : Int} (h : tiX t = .error n) : n = 1 := by
  unfold tiX at h
  split at h
  · cases h
  · cases h; rfl
/-- Where attributes end. -/
def AyEnd (w : World) (b base : Nat) (s n : List UInt8) (R : Except Int (List Atr × List UInt8)) (wx : World) : Prop :=
  ∃ a1 l1 c1, Cx w b n (.slice a1 l1 c1) (.slice none 0 0) wx ∧ match R with
    | .error e => e ≠ 0 ∧ ∃ t', Yr wx b s t' e
    | .ok (a, u) => AtO wx base (.slice a1 l1 c1) a ∧ Yr wx b s u 0
/-- At the head of a round of attributes. -/
def AyHead (w : World) (b base : Nat) (s n t1 : List UInt8) (wr : World) : Prop :=
  ∃ a1 l1 c1, Cx w b n (.slice a1 l1 c1) (.slice none 0 0) wr ∧
    ((∃ e t', Hid (atrX t1 = .error e ∧ e ≠ 0) ∧ Yr wr b s t' e) ∨
     (∃ (t' : List UInt8) (out : List Atr) (j : Nat), Hid (atrX t1 = asF j t' out) ∧ t'.length ≤ j ∧ out.length + t'.length ≤ s.length ∧ Hid (∀ a ∈ out, a.1.length ≤ s.length) ∧ AtO wr base (.slice a1 l1 c1) out ∧ Yr wr b s t' 0))
/-- An attribute that begins here. -/
def asN (j : Nat) (tt : List UInt8) (out : List Atr) : Except Int (List Atr × List UInt8) :=
  match tiX tt with
  | .error e => .error e
  | .ok (n, t1) => match vaX t1 with
    | .error e => .error e
    | .ok (v, r) => if atX (out ++ [(n, v)]) ≠ 0 then .error 6 else asF (j - 1) r (out ++ [(n, v)])
theorem asN_ok {j : Nat} {tt nm t2 : List UInt8} {out : List Atr} (h : tiX tt = .ok (nm, t2)) : asN j tt out = match vaX t2 with
    | .error e => .error e
    | .ok (v, r) => if atX (out ++ [(nm, v)]) ≠ 0 then .error 6 else asF (j - 1) r (out ++ [(nm, v)]) := by
  unfold asN; rw [h]
theorem asF_in {j : Nat} {t : List UInt8} {out : List Atr} (h : t.length ≤ j) (h1 : (wsX t).length < t.length) (h2 : ((wsX t).head?.map tiB1).getD false = true) : asF j t out = asN j (wsX t) out := by
  rw [asF_eq j t out h, if_pos ⟨h1, h2⟩]; rfl
/-- At the end of a round of attributes. -/
def AyRound (w : World) (b base : Nat) (s n t1 : List UInt8) (T : Nat) (wx : World) : Prop :=
  base ≤ wx.heap.size ∧ AyHead w b base s n t1 wx ∧ (if eOf b wx = 0 then s.length - atOf b wx + 1 else 0) < T + 1
section
variable {w wx wz : World} {b base T : Nat} {s n t1 : List UInt8}
theorem ay_err {a1 : Option Addr} {l1 c1 : Nat} {t' : List UInt8} {e : Int} (hz : base ≤ wx.heap.size) (h : Cx w b n (.slice a1 l1 c1) (.slice none 0 0) wx) (hR : Yr wx b s t' e) (he : e ≠ 0) (hE : atrX t1 = .error e) : AyRound w b base s n t1 T wx :=
  ⟨hz, ⟨a1, l1, c1, h, .inl ⟨e, t', Lib.hid ⟨hE, he⟩, hR⟩⟩, by rw [if_neg (by rw [hR.e_eq]; omega)]; omega⟩
theorem ay_next {a1 : Option Addr} {l1 c1 : Nat} {t' : List UInt8} {out : List Atr} {j : Nat} (hz : base ≤ wx.heap.size) (h : Cx w b n (.slice a1 l1 c1) (.slice none 0 0) wx) (hR : Yr wx b s t' 0) (hO : AtO wx base (.slice a1 l1 c1) out)
    (hE : atrX t1 = asF j t' out) (hj : t'.length ≤ j) (hol : out.length + t'.length ≤ s.length) (hn : ∀ a ∈ out, a.1.length ≤ s.length) (hT : t'.length < T) : AyRound w b base s n t1 T wx :=
  ⟨hz, ⟨a1, l1, c1, h, .inr ⟨t', out, j, Lib.hid hE, hj, hol, Lib.hid hn, hO, hR⟩⟩, by rw [if_pos (by rw [hR.e_eq]; rfl), hR.meas]; omega⟩
end
/-- Within an attribute: its block, what is read so far. -/
structure Vy (w : World) (b base qa : Nat) (s n nm : List UInt8) (va : Value) (out : List Atr) (u : List UInt8) (e : Int) (val : List UInt8) (wx : World) : Prop where
  cx : Cx w b n va (.slice none 0 0) wx
  own : AtO wx base va out
  ab : Ab wx qa nm val
  rd : Yr wx b s u e
  lb : b < base
  lq : w.heap.size + 2 ≤ base
  la : base ≤ qa
  nq : va.ownBlock ≠ some qa
section
variable {w wx wy wz : World} {b base qa : Nat} {s n nm u u' val : List UInt8} {va v' : Value} {out : List Atr} {e e' : Int}
theorem Vy.of_gb (h : Vy w b base qa s n nm va out u e val wx) (hg : wx.grownBy wy (some b)) (hR : Yr wy b s u' e') : Vy w b base qa s n nm va out u' e' val wy := by
  have := h.lb
  have := h.la
  exact ⟨h.cx.of_gb hg, h.own.of_gb hg h.lb, h.ab.of_gb hg (by omega), hR, h.lb, h.lq, h.la, h.nq⟩
theorem Vy.of_bl (h : Vy w b base qa s n nm va out u e val wx) (hb : Bl wx wy) : Vy w b base qa s n nm va out u e val wy := h.of_gb (gb_bl hb) (h.rd.of_bl hb)
theorem Vy.size (h : Vy w b base qa s n nm va out u e val wx) : base ≤ wx.heap.size := Nat.le_of_lt (Nat.lt_of_le_of_lt h.la h.ab.1)
theorem Vy.cells (h : Vy w b base qa s n nm va out u e val wx) : (wx.cell? ⟨b, 0, none⟩ = some (.string ⟨s.toArray⟩) ∧ wx.cell? ⟨b, 2, none⟩ = some (.int .i64 e)) ∧
    (wx.cell? ⟨w.heap.size + 1, 0, none⟩ = some (.string ⟨n.toArray⟩) ∧ wx.cell? ⟨w.heap.size + 1, 1, none⟩ = some va ∧ wx.cell? ⟨w.heap.size + 1, 2, none⟩ = some (.string ⟨#[]⟩) ∧ wx.cell? ⟨w.heap.size + 1, 3, none⟩ = some (.slice none 0 0) ∧ wx.frozen? ⟨w.heap.size + 1, 1, none⟩ = false) ∧
    (wx.cell? ⟨w.heap.size, 0, none⟩ = some (.string ⟨#[]⟩) ∧ wx.cell? ⟨w.heap.size, 1, none⟩ = some (.slice none 0 0) ∧ wx.cell? ⟨w.heap.size, 2, none⟩ = some (.string ⟨#[]⟩) ∧ wx.cell? ⟨w.heap.size, 3, none⟩ = some (.slice none 0 0) ∧ wx.frozen? ⟨w.heap.size, 0, none⟩ = false ∧ wx.frozen? ⟨w.heap.size, 1, none⟩ = false ∧ wx.frozen? ⟨w.heap.size, 2, none⟩ = false ∧ wx.frozen? ⟨w.heap.size, 3, none⟩ = false) ∧
    (wx.cell? ⟨qa, 0, none⟩ = some (.string ⟨nm.toArray⟩) ∧ wx.cell? ⟨qa, 1, none⟩ = some (.string ⟨val.toArray⟩) ∧ wx.frozen? ⟨qa, 1, none⟩ = false) := by
  obtain ⟨c0, c1, c2, f0, f1, f2⟩ := h.rd.rk.cells
  obtain ⟨m0, m1, m2, m3, g0, g1, g2, g3⟩ := h.cx.nb.cells
  obtain ⟨z0, z1, z2, z3, y0, y1, y2, y3⟩ := h.cx.zb.cells
  obtain ⟨x0, x1, x2, x3, x4⟩ := h.ab
  exact ⟨⟨c0, c2⟩, ⟨m0, m1, m2, m3, g1⟩, ⟨z0, z1, z2, z3, y0, y1, y2, y3⟩, ⟨x1, x2, x4⟩⟩
theorem Vy.setv (h : Vy w b base qa s n nm va out u e val wx) (y : List UInt8) : Vy w b base qa s n nm va out u e y (wx.setCell ⟨qa, 1, none⟩ (.string ⟨y.toArray⟩)) := by
  have h1 := h.lb
  have h2 := h.la
  have h3 := h.lq
  refine ⟨h.cx.far (by omega), World.ownsRow.kept h.own (gb_set (gb_refl _ wx) 1 (.string ⟨y.toArray⟩)) (.inr h.nq), h.ab.set1 y, h.rd.far (by omega), h1, h3, h2, h.nq⟩
/-- The attribute has been put behind the others. -/
theorem Vy.app {o : Obj} (h : Vy w b base qa s n nm va out u e val wx) (hown' : wz.ownsRow base 39 2 v' (out.length + 1) (atC out ++ [.string ⟨nm.toArray⟩, .string ⟨val.toArray⟩])) (hgrow : (wx.alloc o).grownBy wz va.ownBlock) :
    ∃ a2 l2 c2, v' = .slice a2 l2 c2 ∧ Cx w b n va (.slice none 0 0) wz ∧ Cx w b n (.slice a2 l2 c2) (.slice none 0 0) (wz.setCell ⟨w.heap.size + 1, 1, none⟩ (.slice a2 l2 c2)) ∧ AtO (wz.setCell ⟨w.heap.size + 1, 1, none⟩ (.slice a2 l2 c2)) base (.slice a2 l2 c2) (out ++ [(nm, val)]) ∧ Yr wz b s u e ∧ Yr (wz.setCell ⟨w.heap.size + 1, 1, none⟩ (.slice a2 l2 c2)) b s u e ∧ base ≤ (wz.setCell ⟨w.heap.size + 1, 1, none⟩ (.slice a2 l2 c2)).heap.size := by
  have h1 := h.lb
  have h2 := h.la
  have h3 := h.lq
  have h4 := h.size
  have hlt := World.ownsRow.lt h.own
  obtain ⟨a2, c2, rfl, -⟩ := own_shp hown'
  have hC : Cx w b n va (.slice none 0 0) wz := (h.cx.of_bl ((Bl.refl wx).alloc o)).of_fresh hgrow (fun k hk => by have := (hlt k hk).1; omega)
  have hO : AtO wz base (.slice a2 (out.length + 1) c2) (out ++ [(nm, val)]) := by unfold AtO; rw [atC_snoc, List.length_append]; exact hown'
  have hlt2 := World.ownsRow.lt hO
  have hR : Yr wz b s u e := (h.rd.of_bl ((Bl.refl wx).alloc o)).of_gb hgrow (by intro e; have := (hlt b e.symm).1; omega)
  refine ⟨a2, _, c2, rfl, hC, hC.set1 _, World.ownsRow.kept hO (gb_set (gb_refl _ wz) 1 _) (.inr (fun e => by have := (hlt2 _ e).1; omega)), hR, hR.far (by have := h.cx.lt; omega), ?_⟩
  have := hgrow.size
  simp at this ⊢
  omega
end
/-- A title and its value begin. -/
theorem Vy.new {w w5 w6 : World} {b base : Nat} {s n nm u : List UInt8} {va : Value} {out : List Atr} (hC : Cx w b n va (.slice none 0 0) w5) (hO : AtO w5 base va out) (hg : w5.grownBy w6 (some b)) (hR : Yr w6 b s u 0) (hb : b < base) (hq : w.heap.size + 2 ≤ base) (hz : base ≤ w5.heap.size) :
    Vy w b base w6.heap.size s n nm va out u 0 [] (w6.alloc (.cells #[.string ⟨nm.toArray⟩, .string ⟨#[]⟩] 39)) :=
  ⟨(hC.of_gb hg).of_bl ((Bl.refl _).alloc _), (hO.of_gb hg hb).of_bl ((Bl.refl _).alloc _), ab_new w6 nm, hR.of_bl ((Bl.refl _).alloc _), hb, hq, Nat.le_trans hz hg.size, fun e => by have := (World.ownsRow.lt hO _ e).2; have := hg.size; omega⟩
theorem nx_no (v : List UInt8) (h : 60 ∉ v) : nxI v [60] 0 = -1 := by
  have : cutS [60] v = none := by
    induction v with
    | nil => rfl
    | cons c r ih =>
      have hc : c ≠ 60 := fun e => h (by simp [e])
      rw [cutS_skip 60 c r (Ne.symm hc)]
      exact ih (fun h2 => h (by simp [h2]))
  unfold nxI; rw [List.drop_zero, this]
theorem nx_yes (v : List UInt8) (h : 60 ∈ v) : ∃ i : Nat, nxI v [60] 0 = (i : Int) := by
  obtain ⟨a, r, rfl, ha⟩ : ∃ a r, v = a ++ 60 :: r ∧ 60 ∉ a := by
    induction v with
    | nil => cases h
    | cons c r ih =>
      by_cases hc : c = 60
      · subst hc; exact ⟨[], r, rfl, by simp⟩
      · obtain ⟨a, r', e, ha⟩ := ih (by simpa [Ne.symm hc] using h)
        exact ⟨c :: a, r', by rw [e]; rfl, by simp [ha, Ne.symm hc]⟩
  refine ⟨a.length, ?_⟩
  unfold nxI
  rw [List.drop_zero, cutS_q 60 a r ha]
  simp only [List.length_append, List.length_cons, List.length_nil]
  omega
theorem ltIn_c (v : List UInt8) (hv : v.length ≤ 4294967296) (w : World) :
    Calls Tryz.prog 49 #[.string ⟨v.toArray⟩, .int .i64 0, .string ⟨#[60]⟩] w fun e w' => e = .returned (.int .i64 (nxI v [60] 0)) ∧ w = w' := nextOf_c v [60] 0 hv (by simp) (by decide) (Nat.zero_le _) w
theorem tiX_sfx {t n r : List UInt8} (h : tiX t = .ok (n, r)) : r <:+ t := by
  unfold tiX at h
  split at h
  · have := tiS_sfx t
    rw [Except.ok.inj h] at this
    exact this
  · cases h
/-- Where kids end. -/
def KyEnd (w : World) (b base base2 : Nat) (s n : List UInt8) (a1 : Option Addr) (l1 c1 : Nat) (a : List Atr) (R : Except Int (List Nd × List UInt8)) (wx : World) : Prop :=
  AtP wx (fun k => base ≤ k ∧ k < base2) (.slice a1 l1 c1) a ∧ ∃ a2 l2 c2, Cx w b n (.slice a1 l1 c1) (.slice a2 l2 c2) wx ∧ match R with
    | .error e => e ≠ 0 ∧ ∃ t', Yr wx b s t' e
    | .ok (l, u) => ∃ t', u = t'.drop 2 ∧ 2 ≤ t'.length ∧ Yr wx b s t' 0 ∧ ∃ P, NdS wx P (.slice a2 l2 c2) l ∧ ∀ k, P k → base2 ≤ k ∧ k < wx.heap.size
/-- At the head of a round of kids. -/
def KyHead (w : World) (b base base2 : Nat) (s n : List UInt8) (a1 : Option Addr) (l1 c1 : Nat) (a : List Atr) (k deep : Nat) (t3 : List UInt8) (wr : World) : Prop :=
  AtP wr (fun k => base ≤ k ∧ k < base2) (.slice a1 l1 c1) a ∧ ∃ a2 l2 c2, Cx w b n (.slice a1 l1 c1) (.slice a2 l2 c2) wr ∧
    ((∃ e t', Hid (kiF k deep t3 [] = .error e ∧ e ≠ 0) ∧ Yr wr b s t' e) ∨
     (∃ (t' : List UInt8) (out : List Nd) (P : Nat → Prop) (ents : List Nent) (j : Nat), Hid (kiF k deep t3 [] = kiF (j + 1) deep t' out) ∧ 2 * t'.length + 2 ≤ j + 1 ∧ j < k ∧ NdO wr base2 P (.slice a2 l2 c2) out ents ∧ Hid (∀ k, P k → base2 ≤ k ∧ k < wr.heap.size) ∧ Yr wr b s t' 0 ∧ out.length + t'.length ≤ s.length ∧ Hid (∀ c ∈ out, c.x.length + 4 * t'.length ≤ 4 * s.length)))
end Go.Proofs.YtkacjnifhmgeiaaGreatDoor

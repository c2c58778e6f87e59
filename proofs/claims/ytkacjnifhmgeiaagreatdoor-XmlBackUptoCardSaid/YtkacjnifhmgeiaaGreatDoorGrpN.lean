/- Documents: Read. · Tokens: Bytes, Print of the program. · Tokens that are handed in: what the row's reading gives. · Trees that are handed in: what the row's reading gives; weights. -/
import Derived.Test.YtkacjnifhmgeiaaGreatDoorXmlK
import Derived.Laws.ResultCell
import Derived.Test.YtkacjnifhmgeiaaGreatDoorTokWr
import Derived.Test.YtkacjnifhmgeiaaGreatDoorRows
import Derived.Lib.SmallJoins
import Derived.Test.YtkacjnifhmgeiaaGreatDoorGrpG
import Derived.Test.YtkacjnifhmgeiaaGreatDoorTreR
namespace Go.Proofs.YtkacjnifhmgeiaaGreatDoor
open Go.RowKit

/-- What reading answers. -/
def rdX (s : List UInt8) : Except Int Nd := if 3000 < s.length then .error 2 else XmP s
set_option maxRecDepth 100000 in
set_option maxHeartbeats 4000000 in
theorem readX_c (s : List UInt8) (w : World) (hs : s.length ≤ 4611686018427387904) (hE : ES w) (hM : ML w) :
    Calls Tryz.prog 6 #[.string ⟨s.toArray⟩] w fun e w' => AllEnd w (rdX s) e w' := by
  have hZ0 := nb_new w []
  obtain ⟨z0, z1, z2, z3, y0, y1, y2, y3⟩ := hZ0.cells
  have hb0 : Bl w (w.alloc (.cells #[.string ⟨([] : List UInt8).toArray⟩, .slice none 0 0, .string ⟨#[]⟩, .slice none 0 0] 25)) := (Bl.refl _).alloc _
  by_cases h3 : 3000 < s.length
  · have h3' : (3000 : Int) < (s.length : Int) := by omega
    have ER := Lib.hid (show rdX s = .error 2 by unfold rdX; rw [if_pos h3])
    obtain ⟨r0, r1, r2, r3, -⟩ := (fin4_nb (n := []) (va := .slice none 0 0) (x := []) (vk := .slice none 0 0) hZ0).cells
    unfold fin4 at r0 r1 r2 r3
    go_enter Tryz.func6, Tryz.ntmps6
    go_wp2
    refine bodyPost_ret (v := .tuple #[.agg #[.string ⟨#[]⟩, .slice none 0 0, .string ⟨#[]⟩, .slice none 0 0], .int .i64 2]) (by simp [results, Tryz.results6, go_sem]) rfl ?_
    refine ⟨hb0, ?_⟩
    rw [ER.out]
  · have h3' : ¬ (3000 : Int) < (s.length : Int) := by omega
    have HR := Lib.hid (show rdX s = XmP s by unfold rdX; rw [if_neg h3])
    have AC := Lib.hid (allX_c s (w.alloc (.cells #[.string ⟨([] : List UInt8).toArray⟩, .slice none 0 0, .string ⟨#[]⟩, .slice none 0 0] 25)) (by omega) (hE.of_bl hb0) (hM.of_bl hb0))
    cases hX : XmP s with
    | error n =>
      rw [hX] at AC HR
      clear hX
      go_enter Tryz.func6, Tryz.ntmps6
      go_wp2_with (go_at_call 17; (with_reducible refine AC.out.mono ?_); rintro e w1 ⟨hb1, rfl⟩; have hZ1 := hZ0.of_bl hb1; clear z0 z1 z2 z3 y0 y1 y2 y3; obtain ⟨z0, z1, z2, z3, y0, y1, y2, y3⟩ := hZ1.cells)
      obtain ⟨r0, r1, r2, r3, -⟩ := (fin4_nb (n := []) (va := .slice none 0 0) (x := []) (vk := .slice none 0 0) hZ1).cells
      unfold fin4 at r0 r1 r2 r3
      refine bodyPost_ret (v := .tuple #[.agg #[.string ⟨#[]⟩, .slice none 0 0, .string ⟨#[]⟩, .slice none 0 0], .int .i64 n]) (by simp [results, Tryz.results6, go_sem, r0, r1, r2, r3]) rfl ?_
      have hb2 := hb0.trans hb1
      refine ⟨Below.setCell (Below.setCell (Below.setCell (Below.setCell hb2 (Nat.le_refl _) _) (Nat.le_refl _) _) (Nat.le_refl _) _) (Nat.le_refl _) _, ?_⟩
      rw [HR.out]
    | ok d =>
      rw [hX] at AC HR
      clear hX
      go_enter Tryz.func6, Tryz.ntmps6
      go_wp2_with (go_at_call 17; (with_reducible refine AC.out.mono ?_); rintro e w1 ⟨hb1, va, vk, rfl, P, hAt, hNk, hP⟩; obtain ⟨a1, c1, rfl, -⟩ := id hAt; obtain ⟨a2, c2, rfl, -⟩ := id hNk; have hZ1 := hZ0.of_bl hb1; clear z0 z1 z2 z3 y0 y1 y2 y3; obtain ⟨z0, z1, z2, z3, y0, y1, y2, y3⟩ := hZ1.cells)
      obtain ⟨r0, r1, r2, r3, -⟩ := (fin4_nb (n := d.n) (va := .slice a1 d.a.length c1) (x := d.x) (vk := .slice a2 d.k.length c2) hZ1).cells
      unfold fin4 at r0 r1 r2 r3
      refine bodyPost_ret (v := .tuple #[.agg #[.string ⟨d.n.toArray⟩, .slice a1 d.a.length c1, .string ⟨d.x.toArray⟩, .slice a2 d.k.length c2], .int .i64 0]) (by simp [results, Tryz.results6, go_sem, r0, r1, r2, r3]) rfl ?_
      have hb2 := hb0.trans hb1
      have hsz := alloc_size w (.cells #[.string ⟨([] : List UInt8).toArray⟩, .slice none 0 0, .string ⟨#[]⟩, .slice none 0 0] 25)
      have hPk : ¬ P w.heap.size := fun h => by have := (hP _ h).1; omega
      refine ⟨Below.setCell (Below.setCell (Below.setCell (Below.setCell hb2 (Nat.le_refl _) _) (Nat.le_refl _) _) (Nat.le_refl _) _) (Nat.le_refl _) _, ?_⟩
      rw [HR.out]
      have S4 : Still P w1 _ := (((Still.set w1 w.heap.size 0 (.string ⟨d.n.toArray⟩) hPk).trans (Still.set _ w.heap.size 1 (.slice a1 d.a.length c1) hPk)).trans (Still.set _ w.heap.size 2 (.string ⟨d.x.toArray⟩) hPk)).trans (Still.set _ w.heap.size 3 (.slice a2 d.k.length c2) hPk)
      refine ⟨_, _, rfl, P, hAt.still S4, hNk.still S4, fun k hk => ⟨by have := (hP k hk).1; omega, ?_⟩⟩
      simp only [World.size_setCell]
      exact (hP k hk).2
end Go.Proofs.YtkacjnifhmgeiaaGreatDoor

namespace Go.Proofs.YtkacjnifhmgeiaaGreatDoor
open Go.RowKit

def szT (l : List Tok) : Nat := (l.map fun t => t.2.1.length + szA t.2.2.1 + 6 * t.2.2.2.length + 5).sum
theorem tkW_len (t : Tok) : (tkW t).length ≤ t.2.1.length + szA t.2.2.1 + 6 * t.2.2.2.length + 5 := by
  have h1 := PutL_len t.2.2.2
  have h2 := atW_len t.2.2.1
  unfold tkW
  (repeat' split) <;> simp <;> omega
theorem tksW_len (l : List Tok) : (tksW l).length ≤ szT l := by
  induction l with
  | nil => simp [tksW, szT]
  | cons t l ih =>
    have := tkW_len t
    simp only [tksW, List.flatMap_cons, szT, List.map_cons, List.sum_cons, List.length_append] at *
    omega
theorem szT_take (l : List Tok) (k : Nat) : szT (l.take k) ≤ szT l := by
  induction l generalizing k with
  | nil => simp [szT]
  | cons a l ih =>
    cases k with
    | zero => simp [szT]
    | succ k => have := ih k; simp only [szT, List.take_succ_cons, List.map_cons, List.sum_cons] at *; omega
theorem szT_get (l : List Tok) (k : Nat) (h : k < l.length) : l[k].2.1.length + szA l[k].2.2.1 + 6 * l[k].2.2.2.length + 5 ≤ szT l := by
  induction l generalizing k with
  | nil => simp at h
  | cons a l ih =>
    cases k with
    | zero => simp [szT]
    | succ k => have := ih k (by simpa using h); simp only [szT, List.map_cons, List.sum_cons, List.getElem_cons_succ] at *; omega
theorem szA_len (l : List Atr) : l.length ≤ szA l := by
  induction l with
  | nil => simp
  | cons a l ih => simp only [szA, List.map_cons, List.sum_cons, List.length_cons] at *; omega
theorem new_kept4 {W W' : World} {x y z u : Value} {t : TypeId} {C : Prop} (hb : Bl (W.alloc (.cells #[x, y, z, u] t)).drew W') (k : W'.cell? ⟨W.heap.size, 0, none⟩ = some x → W'.cell? ⟨W.heap.size, 1, none⟩ = some y → W'.cell? ⟨W.heap.size, 2, none⟩ = some z → W'.cell? ⟨W.heap.size, 3, none⟩ = some u → C) : C := by
  have hlt : W.heap.size < (W.alloc (.cells #[x, y, z, u] t)).drew.heap.size := by simp
  refine k ?_ ?_ ?_ ?_
  · rw [hb.cells.1 _ 0 hlt]; simp
  · rw [hb.cells.1 _ 1 hlt]; simp
  · rw [hb.cells.1 _ 2 hlt]; simp
  · rw [hb.cells.1 _ 3 hlt]; simp

end Go.Proofs.YtkacjnifhmgeiaaGreatDoor

namespace Go.Proofs.YtkacjnifhmgeiaaGreatDoor
open Go.RowKit Go.ChangeShapes Go.WideShapes Go.ChangeAt Go.WideElems

section
variable {H : Type} {enc : TypeId × Value → H} {w : World} {sp : Nat → Bool} {held : Bool}
theorem cells_get {a : Addr} {n : Nat} {c : List Value} (h : w.cells? 0 a n = some c) : c.length = n ∧ ∀ i, i < n → w.cell? (a.add i) = c[i]? := by
  unfold World.cells? at h
  rw [if_pos (Nat.zero_le _)] at h
  refine ⟨by simpa using mapM_some_length h, fun i hi => mapM_some_get h i i (by simp [hi])⟩
theorem two_of {α : Type} {c : List α} (h : c.length = 2) : ∃ x y, c = [x, y] := by
  match c, h with
  | [x, y], _ => exact ⟨x, y, rfl⟩
theorem four_of {α : Type} {c : List α} (h : c.length = 4) : ∃ x y z u, c = [x, y, z, u] := by
  match c, h with
  | [x, y, z, u], _ => exact ⟨x, y, z, u, rfl⟩
theorem attr_of {n : Nat} {c : List Value} {y : DataW H × List MemPlace} (h : DataW.trod enc Tryz.prog w 0 sp held n 39 c = some y) :
    ∃ s t : List UInt8, c = [.string ⟨s.toArray⟩, .string ⟨t.toArray⟩] ∧ y.1 = .agg [.lit (.string s), .lit (.string t)] := by
  obtain ⟨y0, y1, m, rfl, hl, h0, h1⟩ := trod_struct2 Tryz.underlying39 h
  have c2 : Tryz.prog.cellsOf 39 = 2 := by kernel_rfl
  rw [c2] at hl
  obtain ⟨x0, x1, rfl⟩ := two_of hl
  have c1 : Tryz.prog.cellsOf 9 = 1 := by kernel_rfl
  obtain ⟨s, e0, rfl, _⟩ := DataW.trod_string Tryz.underlying9 h0
  obtain ⟨t, e1, rfl, _⟩ := DataW.trod_string Tryz.underlying9 h1
  simp only [c1] at e0 e1
  simp at e0 e1
  subst e0 e1
  exact ⟨s.data.toList, t.data.toList, by simp, rfl⟩

theorem list_of {α : Type} {Q : Nat → α → Prop} (n : Nat) (h : ∀ i, i < n → ∃ a, Q i a) : ∃ l : List α, l.length = n ∧ ∀ i (hi : i < l.length), Q i l[i] := by
  induction n with
  | zero => exact ⟨[], rfl, fun i hi => absurd hi (by simp)⟩
  | succ n ih =>
    obtain ⟨l, hl, hq⟩ := ih (fun i hi => h i (by omega))
    obtain ⟨a, ha⟩ := h n (by omega)
    refine ⟨l ++ [a], by simp [hl], fun i hi => ?_⟩
    simp only [List.length_append, List.length_singleton] at hi
    by_cases h2 : i < l.length
    · rw [List.getElem_append_left h2]; exact hq i h2
    · have : i = l.length := by omega
      subst this
      simpa [hl] using ha
theorem add_at {a : Addr} (h : a.spot = none) (k : Nat) : a.add k = ⟨a.block, a.off + k, none⟩ := by
  obtain ⟨b, o, s⟩ := a
  subst h
  unfold Addr.add
  split <;> simp_all
theorem cell_lt {a : Addr} {v : Value} (h : w.cell? a = some v) : a.block < w.heap.size := by
  rcases Nat.lt_or_ge a.block w.heap.size with h1 | h1
  · exact h1
  · simp [World.cell?, Array.getElem?_eq_none h1] at h
def attrD {H : Type} (p : Atr) : DataW H := .agg [.lit (.string p.1), .lit (.string p.2)]
theorem szA_bulk (al : List Atr) : szA al ≤ 6 * Rows.uptoBulkAll (al.map (attrD (H := H))) ∧ al.length ≤ Rows.uptoBulkAll (al.map (attrD (H := H))) := by
  induction al with
  | nil => simp [szA]
  | cons a al ih =>
    simp only [szA, List.map_cons, List.sum_cons, Rows.uptoBulkAll, attrD, Rows.uptoBulk, List.length_cons] at *
    omega
theorem attrs_of {n : Nat} {c : List Value} {y : DataW H × List MemPlace} (h : DataW.trod enc Tryz.prog w 0 sp held n 22 c = some y) :
    ∃ va al, c = [va] ∧ AtS w va al ∧ CapOk va ∧ szA al ≤ 6 * Rows.uptoBulk y.1 := by
  rcases DataW.trod_slice Tryz.underlying22 h with ⟨rfl, rfl⟩ | ⟨a, len, cap, elems, rest, m, rfl, rfl, rfl, _, hc, _, hlen, hel, _, _⟩
  · exact ⟨_, [], rfl, ⟨none, 0, rfl, fun i hi => absurd hi (by simp)⟩, ⟨_, _, _, rfl, Nat.le_refl _⟩, by simp [szA]⟩
  have c2 : Tryz.prog.cellsOf 39 = 2 := by kernel_rfl
  rw [c2] at hel
  obtain ⟨al, hall, hal⟩ := list_of (α := Atr) (Q := fun i p => ∃ q, elems[i]? = some q ∧ q.1 = attrD p ∧ w.cell? (a.add (i * 2)) = some (.string ⟨p.1.toArray⟩) ∧ w.cell? ((a.add (i * 2)).add 1) = some (.string ⟨p.2.toArray⟩)) len (by
    intro i hi
    have h1 := hel i hi
    rw [List.getElem?_eq_getElem (by omega)] at h1
    obtain ⟨cs, h2, h3⟩ := Option.bind_eq_some_iff.1 h1
    obtain ⟨s, t, rfl, h4⟩ := attr_of h3
    have h5 := (cells_get h2).2
    have h50 := h5 0 (by omega)
    have h51 := h5 1 (by omega)
    exact ⟨(s, t), _, List.getElem?_eq_getElem (by omega), h4, by simpa [Addr.add] using h50, by simpa using h51⟩)
  have hmap : elems.map (·.1) = al.map attrD := by
    apply List.ext_getElem?
    intro i
    simp only [List.getElem?_map]
    by_cases hi : i < al.length
    · obtain ⟨q, h1, h2, _⟩ := hal i hi
      rw [h1, List.getElem?_eq_getElem hi]
      simp [h2]
    · rw [List.getElem?_eq_none (by omega), List.getElem?_eq_none (by omega)]; rfl
  refine ⟨_, al, rfl, ⟨some a, cap, by rw [hall], fun i hi => ?_⟩, ⟨_, _, _, rfl, hc⟩, ?_⟩
  · obtain ⟨q, _, _, h3, h4⟩ := hal i hi
    obtain ⟨q0, _, _, h30, _⟩ := hal 0 (by omega)
    have hs : a.spot = none := by
      have := World.cell?_spot h30
      simpa [Addr.add] using this
    have hlt := cell_lt h30
    rw [add_at hs] at h3 h4 hlt
    rw [add_at rfl] at h4
    refine ⟨a.block, a.off, ?_, hlt, h3, h4⟩
    obtain ⟨b, o, s⟩ := a
    subst hs
    rfl
  · simp only [Rows.uptoBulk]
    rw [hmap]
    have := (szA_bulk (H := H) al).1
    omega

theorem szT_len (l : List Tok) : l.length ≤ szT l := by
  induction l with
  | nil => simp
  | cons t l ih => simp only [szT, List.map_cons, List.sum_cons, List.length_cons] at *; omega
theorem Sm_of (l : List Tok) (h : szT l ≤ 1099511627776) : Sm l := by
  intro t ht
  obtain ⟨i, hi, rfl⟩ := List.mem_iff_getElem.1 ht
  have h1 := szT_get l i hi
  have h2 := szA_len l[i].2.2.1
  refine ⟨by omega, by omega, fun a ha => ?_, by omega⟩
  obtain ⟨j, hj, rfl⟩ := List.mem_iff_getElem.1 ha
  have h3 := szA_get l[i].2.2.1 j hj
  exact ⟨by omega, by omega⟩
end
end Go.Proofs.YtkacjnifhmgeiaaGreatDoor

namespace Go.Proofs.YtkacjnifhmgeiaaGreatDoor
open Go.RowKit Go.ChangeShapes Go.WideShapes Go.ChangeAt Go.WideElems

theorem wtA_sz (l : List Atr) : wtA l ≤ szA l := by
  induction l with
  | nil => simp [wtA]
  | cons a l ih => simp only [wtA, szA, List.map_cons, List.sum_cons] at *; omega
theorem szA_wt (l : List Atr) : szA l ≤ 6 * wtA l := by
  induction l with
  | nil => simp [szA]
  | cons a l ih => simp only [wtA, szA, List.map_cons, List.sum_cons] at *; omega
section
variable {H : Type} {enc : TypeId × Value → H} {w : World} {sp : Nat → Bool} {held : Bool}
theorem struct4n {P : Program} {base : Nat} {t : TypeId} {f0 f1 f2 f3 : Field} {fuel : Nat} {cs : List Value} {x : DataW H × List MemPlace} (ht : P.underlying t = some (.struct #[f0, f1, f2, f3])) (h : DataW.trod enc P w base sp held fuel t cs = some x) :
    ∃ y0 y1 y2 y3 n, fuel = n + 1 ∧ x.1 = .agg [y0.1, y1.1, y2.1, y3.1] ∧ cs.length = P.cellsOf t ∧ DataW.trod enc P w base sp held n f0.type ((cs.drop f0.offset).take (P.cellsOf f0.type)) = some y0 ∧
      DataW.trod enc P w base sp held n f1.type ((cs.drop f1.offset).take (P.cellsOf f1.type)) = some y1 ∧ DataW.trod enc P w base sp held n f2.type ((cs.drop f2.offset).take (P.cellsOf f2.type)) = some y2 ∧
      DataW.trod enc P w base sp held n f3.type ((cs.drop f3.offset).take (P.cellsOf f3.type)) = some y3 := by
  obtain ⟨xs, n, hn, rfl, hl, hlen, hf⟩ := DataW.trod_struct ht h
  match xs, hlen with
  | [y0, y1, y2, y3], _ => exact ⟨y0, y1, y2, y3, n, hn, by simp, hl, by simpa using hf 0 f0 rfl, by simpa using hf 1 f1 rfl, by simpa using hf 2 f2 rfl, by simpa using hf 3 f3 rfl⟩
theorem nodes_of (n : Nat) : ∀ {c : List Value} {y : DataW H × List MemPlace}, DataW.trod enc Tryz.prog w 0 sp held n 23 c = some y →
    ∃ v l, c = [v] ∧ NdS w (· < w.heap.size) v l ∧ wtL l ≤ 6 * Rows.uptoBulk y.1 := by
  induction n using Nat.strongRecOn with
  | ind n ih =>
  intro c y h
  rcases DataW.trod_slice Tryz.underlying23 h with ⟨rfl, rfl⟩ | ⟨a, len, cap, elems, rest, m, rfl, rfl, rfl, _, hc, _, hlen, hel, _, _⟩
  · exact ⟨_, [], rfl, NdS.nil _ _, by simp [wtL]⟩
  have c4 : Tryz.prog.cellsOf 25 = 4 := by kernel_rfl
  rw [c4] at hel
  obtain ⟨l, hll, hal⟩ := list_of (α := Nd) (Q := fun i d => ∃ q va vk, elems[i]? = some q ∧ w.cell? (a.add (i * 4)) = some (.string ⟨d.n.toArray⟩) ∧ w.cell? ((a.add (i * 4)).add 1) = some va ∧ w.cell? ((a.add (i * 4)).add 2) = some (.string ⟨d.x.toArray⟩) ∧ w.cell? ((a.add (i * 4)).add 3) = some vk ∧ AtP w (· < w.heap.size) va d.a ∧ NdS w (· < w.heap.size) vk d.k ∧ wtN d ≤ 6 * Rows.uptoBulk q.1) len (by
    intro i hi
    have h1 := hel i hi
    rw [List.getElem?_eq_getElem (by omega)] at h1
    obtain ⟨cs, h2, h3⟩ := Option.bind_eq_some_iff.1 h1
    obtain ⟨y0, y1, y2, y3, m2, rfl, hx, hl, k0, k1, k2, k3⟩ := struct4n Tryz.underlying25 h3
    rw [c4] at hl
    obtain ⟨x0, x1, x2, x3, rfl⟩ := four_of hl
    have c1 : Tryz.prog.cellsOf 9 = 1 := by kernel_rfl
    have c2 : Tryz.prog.cellsOf 23 = 1 := by kernel_rfl
    have c3 : Tryz.prog.cellsOf 22 = 1 := by kernel_rfl
    obtain ⟨s, e0, rfl, _⟩ := DataW.trod_string Tryz.underlying9 k0
    obtain ⟨va, al, e1, hA, hC, hz⟩ := attrs_of k1
    obtain ⟨t, e2, rfl, _⟩ := DataW.trod_string Tryz.underlying9 k2
    obtain ⟨vk, kl, e3, hN, hw⟩ := ih m2 (by omega) k3
    simp only [c1, c2, c3] at e0 e1 e2 e3
    simp at e0 e1 e2 e3
    subst e0 e1 e2 e3
    have h5 := (cells_get h2).2
    have h50 := h5 0 (by omega)
    have h51 := h5 1 (by omega)
    have h52 := h5 2 (by omega)
    have h53 := h5 3 (by omega)
    refine ⟨.mk s.data.toList al t.data.toList kl, _, x1, x3, List.getElem?_eq_getElem (by omega), by simpa [Addr.add, Nd.n] using h50, by simpa using h51, by simpa [Nd.x] using h52, by simpa using h53, AtP.of hA hC, hN, ?_⟩
    have hwa := wtA_sz al
    rw [hx]
    simp only [wtN, Rows.uptoBulk, Rows.uptoBulkAll]
    omega)
  have hsz : ∀ (L : List Nd) (E : List (DataW H × List MemPlace)), E.length = L.length → (∀ i (h : i < L.length), ∃ q, E[i]? = some q ∧ wtN L[i] ≤ 6 * Rows.uptoBulk q.1) → wtL L ≤ 6 * Rows.uptoBulkAll (E.map (·.1)) := by
    intro L
    induction L with
    | nil => intro E _ _; simp [wtL]
    | cons t L ih =>
      intro E hE hq
      match E, hE with
      | q :: E, hE =>
        obtain ⟨q', h1, h2⟩ := hq 0 (by simp)
        obtain rfl : q = q' := by simpa using h1
        have := ih E (by simpa using hE) (fun i hi => by
          obtain ⟨q'', h3, h4⟩ := hq (i + 1) (by simp; omega)
          exact ⟨q'', by simpa using h3, by simpa using h4⟩)
        simp only [List.getElem_cons_zero] at h2
        simp only [wtL, List.map_cons, Rows.uptoBulkAll] at *
        omega
  refine ⟨_, l, rfl, ⟨some a, cap, by rw [hll], by omega, fun hne => ?_⟩, ?_⟩
  · have hpos : 0 < l.length := List.length_pos_iff.2 hne
    obtain ⟨q0, va0, vk0, _, h30, _⟩ := hal 0 hpos
    have hs : a.spot = none := by
      have := World.cell?_spot h30
      simpa [Addr.add] using this
    have hlt := cell_lt h30
    rw [add_at hs] at hlt
    refine ⟨a.block, a.off, ?_, hlt, hlt, (NdL_iff l a.off).2 fun i hi => NdC_mk.2 ?_⟩
    · obtain ⟨b, o, s⟩ := a
      subst hs
      rfl
    · obtain ⟨q, va, vk, _, h3, h4, h5, h6, h7, h8, _⟩ := hal i hi
      rw [add_at hs] at h3 h4 h5 h6
      rw [add_at rfl] at h4 h5 h6
      exact ⟨va, vk, h3, h4, h5, h6, h7, h8⟩
  · simp only [Rows.uptoBulk]
    have := hsz l elems (by omega) (fun i hi => by
      obtain ⟨q, va, vk, h1, _, _, _, _, _, _, h2⟩ := hal i hi
      exact ⟨q, h1, h2⟩)
    omega
set_option maxRecDepth 100000 in
/-- A list of nodes that is handed in. -/
theorem open_nodes {r : Reach} {b0 : Nat} {v : Value} {d : DataW H} {ps : List MemPlace} (hval : Value.okWide Tryz.prog w r b0 23 v) (hd : DataW.Trod enc Tryz.prog w 0 sp held 23 v d ps) :
    ∃ l, NdS w (· < w.heap.size) v l ∧ wtL l ≤ 6 * Rows.uptoBulk d := by
  obtain ⟨a, len, cap, rfl⟩ := okWide_slice Tryz.underlying23 hval
  obtain ⟨fuel, hf⟩ := hd
  obtain ⟨va, l, h1, h2, h3⟩ := nodes_of _ hf
  simp [Value.cells] at h1
  subst h1
  exact ⟨l, h2, h3⟩
end
end Go.Proofs.YtkacjnifhmgeiaaGreatDoor

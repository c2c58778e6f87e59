/- Tokens that are handed in: what the row's reading gives. -/
import Derived.Test.YtjclpmpphkmpdaaGreatDoorTokBy
import Derived.Test.YtjclpmpphkmpdaaGreatDoorRows
import Derived.Lib.SmallJoins
namespace Go.Proofs.YtjclpmpphkmpdaaGreatDoor
open Go.RowKit Go.ChangeShapes Go.WideShapes Go.ChangeAt Go.WideElems

section
variable {H : Type} {enc : TypeId × Value → H} {w : World} {sp : Nat → Bool} {held : Bool}
theorem cells_get {a : Addr} {n : Nat} {c : List Value} (h : w.cells? 0 a n = some c) : c.length = n ∧ ∀ i, i < n → w.cell? (a.add i) = c[i]? := by
  unfold World.cells? at h
  rw [if_pos (Nat.zero_le _)] at h
  refine ⟨by simpa using mapM_some_length h, fun i hi => mapM_some_get h i i (by simp [hi])⟩
theorem two_of {α : Type} {c : List α} (h : c.length = 2) : ∃ x y, c = [x, y] := by
  match c, h with
  | [x, y], _ => exact ⟨x, y, rfl⟩
theorem four_of {α : Type} {c : List α} (h : c.length = 4) : ∃ x y z u, c = [x, y, z, u] := by
  match c, h with
  | [x, y, z, u], _ => exact ⟨x, y, z, u, rfl⟩
theorem attr_of {n : Nat} {c : List Value} {y : DataW H × List MemPlace} (h : DataW.trod enc Tryz.prog w 0 sp held n 69 c = some y) :
    ∃ s t : List UInt8, c = [.string ⟨s.toArray⟩, .string ⟨t.toArray⟩] ∧ y.1 = .agg [.lit (.string s), .lit (.string t)] := by
  obtain ⟨y0, y1, m, rfl, hl, h0, h1⟩ := trod_struct2 Tryz.underlying69 h
  have c2 : Tryz.prog.cellsOf 69 = 2 := by kernel_rfl
  rw [c2] at hl
  obtain ⟨x0, x1, rfl⟩ := two_of hl
  have c1 : Tryz.prog.cellsOf 9 = 1 := by kernel_rfl
  obtain ⟨s, e0, rfl, _⟩ := DataW.trod_string Tryz.underlying9 h0
  obtain ⟨t, e1, rfl, _⟩ := DataW.trod_string Tryz.underlying9 h1
  simp only [c1] at e0 e1
  simp at e0 e1
  subst e0 e1
  exact ⟨s.data.toList, t.data.toList, by simp, rfl⟩

theorem list_of {α : Type} {Q : Nat → α → Prop} (n : Nat) (h : ∀ i, i < n → ∃ a, Q i a) : ∃ l : List α, l.length = n ∧ ∀ i (hi : i < l.length), Q i l[i] := by
  induction n with
  | zero => exact ⟨[], rfl, fun i hi => absurd hi (by simp)⟩
  | succ n ih =>
    obtain ⟨l, hl, hq⟩ := ih (fun i hi => h i (by omega))
    obtain ⟨a, ha⟩ := h n (by omega)
    refine ⟨l ++ [a], by simp [hl], fun i hi => ?_⟩
    simp only [List.length_append, List.length_singleton] at hi
    by_cases h2 : i < l.length
    · rw [List.getElem_append_left h2]; exact hq i h2
    · have : i = l.length := by omega
      subst this
      simpa [hl] using ha
theorem add_at {a : Addr} (h : a.spot = none) (k : Nat) : a.add k = ⟨a.block, a.off + k, none⟩ := by
  obtain ⟨b, o, s⟩ := a
  subst h
  unfold Addr.add
  split <;> simp_all
theorem cell_lt {a : Addr} {v : Value} (h : w.cell? a = some v) : a.block < w.heap.size := by
  rcases Nat.lt_or_ge a.block w.heap.size with h1 | h1
  · exact h1
  · simp [World.cell?, Array.getElem?_eq_none h1] at h
def attrD {H : Type} (p : Atr) : DataW H := .agg [.lit (.string p.1), .lit (.string p.2)]
theorem szA_bulk (al : List Atr) : szA al ≤ 6 * Rows.uptoBulkAll (al.map (attrD (H := H))) ∧ al.length ≤ Rows.uptoBulkAll (al.map (attrD (H := H))) := by
  induction al with
  | nil => simp [szA]
  | cons a al ih =>
    simp only [szA, List.map_cons, List.sum_cons, Rows.uptoBulkAll, attrD, Rows.uptoBulk, List.length_cons] at *
    omega
theorem attrs_of {n : Nat} {c : List Value} {y : DataW H × List MemPlace} (h : DataW.trod enc Tryz.prog w 0 sp held n 39 c = some y) :
    ∃ va al, c = [va] ∧ AtS w va al ∧ CapOk va ∧ szA al ≤ 6 * Rows.uptoBulk y.1 := by
  rcases DataW.trod_slice Tryz.underlying39 h with ⟨rfl, rfl⟩ | ⟨a, len, cap, elems, rest, m, rfl, rfl, rfl, _, hc, _, hlen, hel, _, _⟩
  · exact ⟨_, [], rfl, ⟨none, 0, rfl, fun i hi => absurd hi (by simp)⟩, ⟨_, _, _, rfl, Nat.le_refl _⟩, by simp [szA]⟩
  have c2 : Tryz.prog.cellsOf 69 = 2 := by kernel_rfl
  rw [c2] at hel
  obtain ⟨al, hall, hal⟩ := list_of (α := Atr) (Q := fun i p => ∃ q, elems[i]? = some q ∧ q.1 = attrD p ∧ w.cell? (a.add (i * 2)) = some (.string ⟨p.1.toArray⟩) ∧ w.cell? ((a.add (i * 2)).add 1) = some (.string ⟨p.2.toArray⟩)) len (by
    intro i hi
    have h1 := hel i hi
    rw [List.getElem?_eq_getElem (by omega)] at h1
    obtain ⟨cs, h2, h3⟩ := Option.bind_eq_some_iff.1 h1
    obtain ⟨s, t, rfl, h4⟩ := attr_of h3
    have h5 := (cells_get h2).2
    have h50 := h5 0 (by omega)
    have h51 := h5 1 (by omega)
    exact ⟨(s, t), _, List.getElem?_eq_getElem (by omega), h4, by simpa [Addr.add] using h50, by simpa using h51⟩)
  have hmap : elems.map (·.1) = al.map attrD := by
    apply List.ext_getElem?
    intro i
    simp only [List.getElem?_map]
    by_cases hi : i < al.length
    · obtain ⟨q, h1, h2, _⟩ := hal i hi
      rw [h1, List.getElem?_eq_getElem hi]
      simp [h2]
    · rw [List.getElem?_eq_none (by omega), List.getElem?_eq_none (by omega)]; rfl
  refine ⟨_, al, rfl, ⟨some a, cap, by rw [hall], fun i hi => ?_⟩, ⟨_, _, _, rfl, hc⟩, ?_⟩
  · obtain ⟨q, _, _, h3, h4⟩ := hal i hi
    obtain ⟨q0, _, _, h30, _⟩ := hal 0 (by omega)
    have hs : a.spot = none := by
      have := World.cell?_spot h30
      simpa [Addr.add] using this
    have hlt := cell_lt h30
    rw [add_at hs] at h3 h4 hlt
    rw [add_at rfl] at h4
    refine ⟨a.block, a.off, ?_, hlt, h3, h4⟩
    obtain ⟨b, o, s⟩ := a
    subst hs
    rfl
  · simp only [Rows.uptoBulk]
    rw [hmap]
    have := (szA_bulk (H := H) al).1
    omega

theorem tok_of {n : Nat} {c : List Value} {y : DataW H × List MemPlace} (h : DataW.trod enc Tryz.prog w 0 sp held n 41 c = some y) :
    ∃ (t : Tok) (va : Value), c = [.int .i64 t.1, .string ⟨t.2.1.toArray⟩, va, .string ⟨t.2.2.2.toArray⟩] ∧ AtS w va t.2.2.1 ∧ CapOk va ∧ t.2.1.length + szA t.2.2.1 + 6 * t.2.2.2.length + 5 ≤ 6 * Rows.uptoBulk y.1 := by
  obtain ⟨y0, y1, y2, y3, m, rfl, hl, h0, h1, h2, h3⟩ := Joins.trod_struct4 Tryz.underlying41 h
  have c4 : Tryz.prog.cellsOf 41 = 4 := by kernel_rfl
  rw [c4] at hl
  obtain ⟨x0, x1, x2, x3, rfl⟩ := four_of hl
  have c1 : Tryz.prog.cellsOf 9 = 1 := by kernel_rfl
  have c2 : Tryz.prog.cellsOf 3 = 1 := by kernel_rfl
  have c3 : Tryz.prog.cellsOf 39 = 1 := by kernel_rfl
  obtain ⟨k, e0, rfl, _⟩ := DataW.trod_int Tryz.underlying3 h0
  obtain ⟨s, e1, rfl, _⟩ := DataW.trod_string Tryz.underlying9 h1
  obtain ⟨va, al, e2, hA, hC, hz⟩ := attrs_of h2
  obtain ⟨t, e3, rfl, _⟩ := DataW.trod_string Tryz.underlying9 h3
  simp only [c1, c2, c3] at e0 e1 e2 e3
  simp at e0 e1 e2 e3
  subst e0 e1 e2 e3
  refine ⟨(k, s.data.toList, al, t.data.toList), x2, by simp, hA, hC, ?_⟩
  simp only [Rows.uptoBulk, Rows.uptoBulkAll]
  omega
/-- How many places a reading's list of tokens holds, each told by its datum. -/
theorem toks_of {n : Nat} {c : List Value} {y : DataW H × List MemPlace} (h : DataW.trod enc Tryz.prog w 0 sp held n 22 c = some y) :
    ∃ va l, c = [va] ∧ TkS w va l ∧ szT l ≤ 6 * Rows.uptoBulk y.1 := by
  rcases DataW.trod_slice Tryz.underlying22 h with ⟨rfl, rfl⟩ | ⟨a, len, cap, elems, rest, m, rfl, rfl, rfl, _, hc, _, hlen, hel, _, _⟩
  · exact ⟨_, [], rfl, ⟨none, 0, rfl, fun i hi => absurd hi (by simp)⟩, by simp [szT]⟩
  have c4 : Tryz.prog.cellsOf 41 = 4 := by kernel_rfl
  rw [c4] at hel
  obtain ⟨l, hll, hal⟩ := list_of (α := Tok) (Q := fun i t => ∃ q va, elems[i]? = some q ∧ w.cell? (a.add (i * 4)) = some (.int .i64 t.1) ∧ w.cell? ((a.add (i * 4)).add 1) = some (.string ⟨t.2.1.toArray⟩) ∧ w.cell? ((a.add (i * 4)).add 2) = some va ∧ w.cell? ((a.add (i * 4)).add 3) = some (.string ⟨t.2.2.2.toArray⟩) ∧ AtS w va t.2.2.1 ∧ CapOk va ∧ t.2.1.length + szA t.2.2.1 + 6 * t.2.2.2.length + 5 ≤ 6 * Rows.uptoBulk q.1) len (by
    intro i hi
    have h1 := hel i hi
    rw [List.getElem?_eq_getElem (by omega)] at h1
    obtain ⟨cs, h2, h3⟩ := Option.bind_eq_some_iff.1 h1
    obtain ⟨t, va, rfl, hA, hC, hz⟩ := tok_of h3
    have h5 := (cells_get h2).2
    have h50 := h5 0 (by omega)
    have h51 := h5 1 (by omega)
    have h52 := h5 2 (by omega)
    have h53 := h5 3 (by omega)
    exact ⟨t, _, va, List.getElem?_eq_getElem (by omega), by simpa [Addr.add] using h50, by simpa using h51, by simpa using h52, by simpa using h53, hA, hC, hz⟩)
  have hsz : ∀ (L : List Tok) (E : List (DataW H × List MemPlace)), E.length = L.length → (∀ i (h : i < L.length), ∃ q, E[i]? = some q ∧ L[i].2.1.length + szA L[i].2.2.1 + 6 * L[i].2.2.2.length + 5 ≤ 6 * Rows.uptoBulk q.1) → szT L ≤ 6 * Rows.uptoBulkAll (E.map (·.1)) := by
    intro L
    induction L with
    | nil => intro E _ _; simp [szT]
    | cons t L ih =>
      intro E hE hq
      match E, hE with
      | q :: E, hE =>
        obtain ⟨q', h1, h2⟩ := hq 0 (by simp)
        obtain rfl : q = q' := by simpa using h1
        have := ih E (by simpa using hE) (fun i hi => by
          obtain ⟨q'', h3, h4⟩ := hq (i + 1) (by simp; omega)
          exact ⟨q'', by simpa using h3, by simpa using h4⟩)
        simp only [List.getElem_cons_zero] at h2
        simp only [szT, List.map_cons, List.sum_cons, Rows.uptoBulkAll] at *
        omega
  refine ⟨_, l, rfl, ⟨some a, cap, by rw [hll], fun i hi => ?_⟩, ?_⟩
  · obtain ⟨q, va, _, h3, h4, h5, h6, h7, h8, _⟩ := hal i hi
    obtain ⟨q0, va0, _, h30, _⟩ := hal 0 (by omega)
    have hs : a.spot = none := by
      have := World.cell?_spot h30
      simpa [Addr.add] using this
    have hlt := cell_lt h30
    rw [add_at hs] at h3 h4 h5 h6 hlt
    rw [add_at rfl] at h4 h5 h6
    refine ⟨a.block, a.off, va, ?_, hlt, h3, h4, h5, h6, h7, h8⟩
    obtain ⟨b, o, s⟩ := a
    subst hs
    rfl
  · simp only [Rows.uptoBulk]
    have := hsz l elems (by omega) (fun i hi => by
      obtain ⟨q, va, h1, _, _, _, _, _, _, h2⟩ := hal i hi
      exact ⟨q, h1, h2⟩)
    omega
theorem szT_len (l : List Tok) : l.length ≤ szT l := by
  induction l with
  | nil => simp
  | cons t l ih => simp only [szT, List.map_cons, List.sum_cons, List.length_cons] at *; omega
theorem Sm_of (l : List Tok) (h : szT l ≤ 1099511627776) : Sm l := by
  intro t ht
  obtain ⟨i, hi, rfl⟩ := List.mem_iff_getElem.1 ht
  have h1 := szT_get l i hi
  have h2 := szA_len l[i].2.2.1
  refine ⟨by omega, by omega, fun a ha => ?_, by omega⟩
  obtain ⟨j, hj, rfl⟩ := List.mem_iff_getElem.1 ha
  have h3 := szA_get l[i].2.2.1 j hj
  exact ⟨by omega, by omega⟩
set_option maxRecDepth 100000 in
/-- A list of tokens that is handed in. -/
theorem open_toks {r : Reach} {b0 : Nat} {v : Value} {d : DataW H} {ps : List MemPlace} (hval : Value.okWide Tryz.prog w r b0 22 v) (hd : DataW.Trod enc Tryz.prog w 0 sp held 22 v d ps) :
    ∃ l, TkS w v l ∧ szT l ≤ 6 * Rows.uptoBulk d := by
  obtain ⟨a, len, cap, rfl⟩ := okWide_slice Tryz.underlying22 hval
  obtain ⟨fuel, hf⟩ := hd
  obtain ⟨va, l, h1, h2, h3⟩ := toks_of hf
  simp [Value.cells] at h1
  subst h1
  exact ⟨l, h2, h3⟩
end
end Go.Proofs.YtjclpmpphkmpdaaGreatDoor

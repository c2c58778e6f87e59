/- Tokens that are handed in: what the row's reading gives. · Trees that are handed in: what the row's reading gives; weights. · escape.Take, Strict; what must be in any case; signs that are put are taken as they were. · Trees: a token comes: a text; one that closes. · Trees: a token comes that opens. · Trees: Of. · Trees: Build of the program. · Trees: the constant tree and its tokens, in plain Lean. · Trees: the constant tree of the laws, in memory. · Documents: what must be in any case. -/
import Derived.Test.YtkacjnifhmgeiaaGreatDoorGrpN
import Derived.Test.YtkacjnifhmgeiaaGreatDoorRows
import Derived.Lib.SmallJoins
import Derived.Test.YtkacjnifhmgeiaaGreatDoorGrpI
import Derived.Test.YtkacjnifhmgeiaaGreatDoorTreR
import Derived.Test.YtkacjnifhmgeiaaGreatDoorGrpG
import Derived.Test.YtkacjnifhmgeiaaGreatDoorGrpM
import Derived.Deep.CutBlock
import Derived.Test.YtkacjnifhmgeiaaGreatDoorGrpE
import Derived.Test.YtkacjnifhmgeiaaGreatDoorXmlP
import Derived.Test.YtkacjnifhmgeiaaGreatDoorGrpO
namespace Go.Proofs.YtkacjnifhmgeiaaGreatDoor
open Go.RowKit Go.ChangeShapes Go.WideShapes Go.ChangeAt Go.WideElems

section
variable {H : Type} {enc : TypeId × Value → H} {w : World} {sp : Nat → Bool} {held : Bool}
theorem cells_get {a : Addr} {n : Nat} {c : List Value} (h : w.cells? 0 a n = some c) : c.length = n ∧ ∀ i, i < n → w.cell? (a.add i) = c[i]? := by
  unfold World.cells? at h
  rw [if_pos (Nat.zero_le _)] at h
  refine ⟨by simpa using mapM_some_length h, fun i hi => mapM_some_get h i i (by simp [hi])⟩
theorem two_of {α : Type} {c : List α} (h : c.length = 2) : ∃ x y, c = [x, y] := by
  match c, h with
  | [x, y], _ => exact ⟨x, y, rfl⟩
theorem four_of {α : Type} {c : List α} (h : c.length = 4) : ∃ x y z u, c = [x, y, z, u] := by
  match c, h with
  | [x, y, z, u], _ => exact ⟨x, y, z, u, rfl⟩
theorem attr_of {n : Nat} {c : List Value} {y : DataW H × List MemPlace} (h : DataW.trod enc Tryz.prog w 0 sp held n 39 c = some y) :
    ∃ s t : List UInt8, c = [.string ⟨s.toArray⟩, .string ⟨t.toArray⟩] ∧ y.1 = .agg [.lit (.string s), .lit (.string t)] := by
  obtain ⟨y0, y1, m, rfl, hl, h0, h1⟩ := trod_struct2 Tryz.underlying39 h
  have c2 : Tryz.prog.cellsOf 39 = 2 := by kernel_rfl
  rw [c2] at hl
  obtain ⟨x0, x1, rfl⟩ := two_of hl
  have c1 : Tryz.prog.cellsOf 9 = 1 := by kernel_rfl
  obtain ⟨s, e0, rfl, _⟩ := DataW.trod_string Tryz.underlying9 h0
  obtain ⟨t, e1, rfl, _⟩ := DataW.trod_string Tryz.underlying9 h1
  simp only [c1] at e0 e1
  simp at e0 e1
  subst e0 e1
  exact ⟨s.data.toList, t.data.toList, by simp, rfl⟩

theorem list_of {α : Type} {Q : Nat → α → Prop} (n : Nat) (h : ∀ i, i < n → ∃ a, Q i a) : ∃ l : List α, l.length = n ∧ ∀ i (hi : i < l.length), Q i l[i] := by
  induction n with
  | zero => exact ⟨[], rfl, fun i hi => absurd hi (by simp)⟩
  | succ n ih =>
    obtain ⟨l, hl, hq⟩ := ih (fun i hi => h i (by omega))
    obtain ⟨a, ha⟩ := h n (by omega)
    refine ⟨l ++ [a], by simp [hl], fun i hi => ?_⟩
    simp only [List.length_append, List.length_singleton] at hi
    by_cases h2 : i < l.length
    · rw [List.getElem_append_left h2]; exact hq i h2
    · have : i = l.length := by omega
      subst this
      simpa [hl] using ha
theorem add_at {a : Addr} (h : a.spot = none) (k : Nat) : a.add k = ⟨a.block, a.off + k, none⟩ := by
  obtain ⟨b, o, s⟩ := a
  subst h
  unfold Addr.add
  split <;> simp_all
theorem cell_lt {a : Addr} {v : Value} (h : w.cell? a = some v) : a.block < w.heap.size := by
  rcases Nat.lt_or_ge a.block w.heap.size with h1 | h1
  · exact h1
  · simp [World.cell?, Array.getElem?_eq_none h1] at h
def attrD {H : Type} (p : Atr) : DataW H := .agg [.lit (.string p.1), .lit (.string p.2)]
theorem szA_bulk (al : List Atr) : szA al ≤ 6 * Rows.uptoBulkAll (al.map (attrD (H := H))) ∧ al.length ≤ Rows.uptoBulkAll (al.map (attrD (H := H))) := by
  induction al with
  | nil => simp [szA]
  | cons a al ih =>
    simp only [szA, List.map_cons, List.sum_cons, Rows.uptoBulkAll, attrD, Rows.uptoBulk, List.length_cons] at *
    omega
theorem attrs_of {n : Nat} {c : List Value} {y : DataW H × List MemPlace} (h : DataW.trod enc Tryz.prog w 0 sp held n 22 c = some y) :
    ∃ va al, c = [va] ∧ AtS w va al ∧ CapOk va ∧ szA al ≤ 6 * Rows.uptoBulk y.1 := by
  rcases DataW.trod_slice Tryz.underlying22 h with ⟨rfl, rfl⟩ | ⟨a, len, cap, elems, rest, m, rfl, rfl, rfl, _, hc, _, hlen, hel, _, _⟩
  · exact ⟨_, [], rfl, ⟨none, 0, rfl, fun i hi => absurd hi (by simp)⟩, ⟨_, _, _, rfl, Nat.le_refl _⟩, by simp [szA]⟩
  have c2 : Tryz.prog.cellsOf 39 = 2 := by kernel_rfl
  rw [c2] at hel
  obtain ⟨al, hall, hal⟩ := list_of (α := Atr) (Q := fun i p => ∃ q, elems[i]? = some q ∧ q.1 = attrD p ∧ w.cell? (a.add (i * 2)) = some (.string ⟨p.1.toArray⟩) ∧ w.cell? ((a.add (i * 2)).add 1) = some (.string ⟨p.2.toArray⟩)) len (by
    intro i hi
    have h1 := hel i hi
    rw [List.getElem?_eq_getElem (by omega)] at h1
    obtain ⟨cs, h2, h3⟩ := Option.bind_eq_some_iff.1 h1
    obtain ⟨s, t, rfl, h4⟩ := attr_of h3
    have h5 := (cells_get h2).2
    have h50 := h5 0 (by omega)
    have h51 := h5 1 (by omega)
    exact ⟨(s, t), _, List.getElem?_eq_getElem (by omega), h4, by simpa [Addr.add] using h50, by simpa using h51⟩)
  have hmap : elems.map (·.1) = al.map attrD := by
    apply List.ext_getElem?
    intro i
    simp only [List.getElem?_map]
    by_cases hi : i < al.length
    · obtain ⟨q, h1, h2, _⟩ := hal i hi
      rw [h1, List.getElem?_eq_getElem hi]
      simp [h2]
    · rw [List.getElem?_eq_none (by omega), List.getElem?_eq_none (by omega)]; rfl
  refine ⟨_, al, rfl, ⟨some a, cap, by rw [hall], fun i hi => ?_⟩, ⟨_, _, _, rfl, hc⟩, ?_⟩
  · obtain ⟨q, _, _, h3, h4⟩ := hal i hi
    obtain ⟨q0, _, _, h30, _⟩ := hal 0 (by omega)
    have hs : a.spot = none := by
      have := World.cell?_spot h30
      simpa [Addr.add] using this
    have hlt := cell_lt h30
    rw [add_at hs] at h3 h4 hlt
    rw [add_at rfl] at h4
    refine ⟨a.block, a.off, ?_, hlt, h3, h4⟩
    obtain ⟨b, o, s⟩ := a
    subst hs
    rfl
  · simp only [Rows.uptoBulk]
    rw [hmap]
    have := (szA_bulk (H := H) al).1
    omega

theorem szT_len (l : List Tok) : l.length ≤ szT l := by
  induction l with
  | nil => simp
  | cons t l ih => simp only [szT, List.map_cons, List.sum_cons, List.length_cons] at *; omega
theorem Sm_of (l : List Tok) (h : szT l ≤ 1099511627776) : Sm l := by
  intro t ht
  obtain ⟨i, hi, rfl⟩ := List.mem_iff_getElem.1 ht
  have h1 := szT_get l i hi
  have h2 := szA_len l[i].2.2.1
  refine ⟨by omega, by omega, fun a ha => ?_, by omega⟩
  obtain ⟨j, hj, rfl⟩ := List.mem_iff_getElem.1 ha
  have h3 := szA_get l[i].2.2.1 j hj
  exact ⟨by omega, by omega⟩
end
end Go.Proofs.YtkacjnifhmgeiaaGreatDoor

namespace Go.Proofs.YtkacjnifhmgeiaaGreatDoor
open Go.RowKit Go.ChangeShapes Go.WideShapes Go.ChangeAt Go.WideElems

theorem wtA_sz (l : List Atr) : wtA l ≤ szA l := by
  induction l with
  | nil => simp [wtA]
  | cons a l ih => simp only [wtA, szA, List.map_cons, List.sum_cons] at *; omega
section
variable {H : Type} {enc : TypeId × Value → H} {w : World} {sp : Nat → Bool} {held : Bool}
theorem struct4n {P : Program} {base : Nat} {t : TypeId} {f0 f1 f2 f3 : Field} {fuel : Nat} {cs : List Value} {x : DataW H × List MemPlace} (ht : P.underlying t = some (.struct #[f0, f1, f2, f3])) (h : DataW.trod enc P w base sp held fuel t cs = some x) :
    ∃ y0 y1 y2 y3 n, fuel = n + 1 ∧ x.1 = .agg [y0.1, y1.1, y2.1, y3.1] ∧ cs.length = P.cellsOf t ∧ DataW.trod enc P w base sp held n f0.type ((cs.drop f0.offset).take (P.cellsOf f0.type)) = some y0 ∧
      DataW.trod enc P w base sp held n f1.type ((cs.drop f1.offset).take (P.cellsOf f1.type)) = some y1 ∧ DataW.trod enc P w base sp held n f2.type ((cs.drop f2.offset).take (P.cellsOf f2.type)) = some y2 ∧
      DataW.trod enc P w base sp held n f3.type ((cs.drop f3.offset).take (P.cellsOf f3.type)) = some y3 := by
  obtain ⟨xs, n, hn, rfl, hl, hlen, hf⟩ := DataW.trod_struct ht h
  match xs, hlen with
  | [y0, y1, y2, y3], _ => exact ⟨y0, y1, y2, y3, n, hn, by simp, hl, by simpa using hf 0 f0 rfl, by simpa using hf 1 f1 rfl, by simpa using hf 2 f2 rfl, by simpa using hf 3 f3 rfl⟩
theorem nodes_of (n : Nat) : ∀ {c : List Value} {y : DataW H × List MemPlace}, DataW.trod enc Tryz.prog w 0 sp held n 23 c = some y →
    ∃ v l, c = [v] ∧ NdS w (· < w.heap.size) v l ∧ wtL l ≤ 6 * Rows.uptoBulk y.1 := by
  induction n using Nat.strongRecOn with
  | ind n ih =>
  intro c y h
  rcases DataW.trod_slice Tryz.underlying23 h with ⟨rfl, rfl⟩ | ⟨a, len, cap, elems, rest, m, rfl, rfl, rfl, _, hc, _, hlen, hel, _, _⟩
  · exact ⟨_, [], rfl, NdS.nil _ _, by simp [wtL]⟩
  have c4 : Tryz.prog.cellsOf 25 = 4 := by kernel_rfl
  rw [c4] at hel
  obtain ⟨l, hll, hal⟩ := list_of (α := Nd) (Q := fun i d => ∃ q va vk, elems[i]? = some q ∧ w.cell? (a.add (i * 4)) = some (.string ⟨d.n.toArray⟩) ∧ w.cell? ((a.add (i * 4)).add 1) = some va ∧ w.cell? ((a.add (i * 4)).add 2) = some (.string ⟨d.x.toArray⟩) ∧ w.cell? ((a.add (i * 4)).add 3) = some vk ∧ AtP w (· < w.heap.size) va d.a ∧ NdS w (· < w.heap.size) vk d.k ∧ wtN d ≤ 6 * Rows.uptoBulk q.1) len (by
    intro i hi
    have h1 := hel i hi
    rw [List.getElem?_eq_getElem (by omega)] at h1
    obtain ⟨cs, h2, h3⟩ := Option.bind_eq_some_iff.1 h1
    obtain ⟨y0, y1, y2, y3, m2, rfl, hx, hl, k0, k1, k2, k3⟩ := struct4n Tryz.underlying25 h3
    rw [c4] at hl
    obtain ⟨x0, x1, x2, x3, rfl⟩ := four_of hl
    have c1 : Tryz.prog.cellsOf 9 = 1 := by kernel_rfl
    have c2 : Tryz.prog.cellsOf 23 = 1 := by kernel_rfl
    have c3 : Tryz.prog.cellsOf 22 = 1 := by kernel_rfl
    obtain ⟨s, e0, rfl, _⟩ := DataW.trod_string Tryz.underlying9 k0
    obtain ⟨va, al, e1, hA, hC, hz⟩ := attrs_of k1
    obtain ⟨t, e2, rfl, _⟩ := DataW.trod_string Tryz.underlying9 k2
    obtain ⟨vk, kl, e3, hN, hw⟩ := ih m2 (by omega) k3
    simp only [c1, c2, c3] at e0 e1 e2 e3
    simp at e0 e1 e2 e3
    subst e0 e1 e2 e3
    have h5 := (cells_get h2).2
    have h50 := h5 0 (by omega)
    have h51 := h5 1 (by omega)
    have h52 := h5 2 (by omega)
    have h53 := h5 3 (by omega)
    refine ⟨.mk s.data.toList al t.data.toList kl, _, x1, x3, List.getElem?_eq_getElem (by omega), by simpa [Addr.add, Nd.n] using h50, by simpa using h51, by simpa [Nd.x] using h52, by simpa using h53, AtP.of hA hC, hN, ?_⟩
    have hwa := wtA_sz al
    rw [hx]
    simp only [wtN, Rows.uptoBulk, Rows.uptoBulkAll]
    omega)
  have hsz : ∀ (L : List Nd) (E : List (DataW H × List MemPlace)), E.length = L.length → (∀ i (h : i < L.length), ∃ q, E[i]? = some q ∧ wtN L[i] ≤ 6 * Rows.uptoBulk q.1) → wtL L ≤ 6 * Rows.uptoBulkAll (E.map (·.1)) := by
    intro L
    induction L with
    | nil => intro E _ _; simp [wtL]
    | cons t L ih =>
      intro E hE hq
      match E, hE with
      | q :: E, hE =>
        obtain ⟨q', h1, h2⟩ := hq 0 (by simp)
        obtain rfl : q = q' := by simpa using h1
        have := ih E (by simpa using hE) (fun i hi => by
          obtain ⟨q'', h3, h4⟩ := hq (i + 1) (by simp; omega)
          exact ⟨q'', by simpa using h3, by simpa using h4⟩)
        simp only [List.getElem_cons_zero] at h2
        simp only [wtL, List.map_cons, Rows.uptoBulkAll] at *
        omega
  refine ⟨_, l, rfl, ⟨some a, cap, by rw [hll], by omega, fun hne => ?_⟩, ?_⟩
  · have hpos : 0 < l.length := List.length_pos_iff.2 hne
    obtain ⟨q0, va0, vk0, _, h30, _⟩ := hal 0 hpos
    have hs : a.spot = none := by
      have := World.cell?_spot h30
      simpa [Addr.add] using this
    have hlt := cell_lt h30
    rw [add_at hs] at hlt
    refine ⟨a.block, a.off, ?_, hlt, hlt, (NdL_iff l a.off).2 fun i hi => NdC_mk.2 ?_⟩
    · obtain ⟨b, o, s⟩ := a
      subst hs
      rfl
    · obtain ⟨q, va, vk, _, h3, h4, h5, h6, h7, h8, _⟩ := hal i hi
      rw [add_at hs] at h3 h4 h5 h6
      rw [add_at rfl] at h4 h5 h6
      exact ⟨va, vk, h3, h4, h5, h6, h7, h8⟩
  · simp only [Rows.uptoBulk]
    have := hsz l elems (by omega) (fun i hi => by
      obtain ⟨q, va, vk, h1, _, _, _, _, _, _, h2⟩ := hal i hi
      exact ⟨q, h1, h2⟩)
    omega
set_option maxRecDepth 100000 in
/-- A list of nodes that is handed in. -/
theorem open_nodes {r : Reach} {b0 : Nat} {v : Value} {d : DataW H} {ps : List MemPlace} (hval : Value.okWide Tryz.prog w r b0 23 v) (hd : DataW.Trod enc Tryz.prog w 0 sp held 23 v d ps) :
    ∃ l, NdS w (· < w.heap.size) v l ∧ wtL l ≤ 6 * Rows.uptoBulk d := by
  obtain ⟨a, len, cap, rfl⟩ := okWide_slice Tryz.underlying23 hval
  obtain ⟨fuel, hf⟩ := hd
  obtain ⟨va, l, h1, h2, h3⟩ := nodes_of _ hf
  simp [Value.cells] at h1
  subst h1
  exact ⟨l, h2, h3⟩
end
end Go.Proofs.YtkacjnifhmgeiaaGreatDoor

namespace Go.Proofs.YtkacjnifhmgeiaaGreatDoor
open Go.RowKit

theorem Take_c (l : List UInt8) (w : World) (hE : ES w) :
    Calls Tryz.prog 30 #[.string ⟨l.toArray⟩] w fun e w' => e = .returned (.tuple #[.string ⟨(short l (Tk l).1).toArray⟩, .int .i64 (tooL l)]) ∧ Bl w w' := by
  by_cases h : 3000 < l.length
  · have h' : decide (3000 < l.length) = true := by simpa using h
    have HT := Lib.hid (show tooL l = 2 by unfold tooL; rw [if_pos h])
    have HI := Lib.hid (show short l (Tk l).1 = [] by unfold short; rw [if_pos h])
    clear h
    go_enter Tryz.func30, Tryz.ntmps30
    go_wp2_with (go_at_call 32; refine (long_c _ _).mono ?_; rintro e w' ⟨rfl, rfl⟩)
    go_ret2
    exact ⟨by rw [HT.out, HI.out]; rfl, Bl.refl _⟩
  · have h' : decide (3000 < l.length) = false := by simpa using h
    have HT := Lib.hid (show tooL l = 0 by unfold tooL; rw [if_neg h])
    have HI := Lib.hid (show short l (Tk l).1 = (Tk l).1 by unfold short; rw [if_neg h])
    have TC := Lib.hid (fun W hW => taken_c l (by omega) W hW)
    clear h
    go_enter Tryz.func30, Tryz.ntmps30
    go_wp2_with (first | (go_at_call 32; refine (long_c _ _).mono ?_; rintro e w' ⟨rfl, rfl⟩) | (go_at_call 55; (with_reducible refine (TC.out _ hE).mono ?_); rintro e w' ⟨rfl, hb⟩) | go_quiet (fail))
    go_ret2
    exact ⟨by rw [HT.out, HI.out]; rfl, hb⟩
/-- Strict: its text and its errno. -/
def strT (l : List UInt8) : List UInt8 := if 3000 < l.length then [] else if (Tk l).2 then (Tk l).1 else []
def strE (l : List UInt8) : Int := if 3000 < l.length then 2 else if (Tk l).2 then 0 else 1
theorem Strict_c (l : List UInt8) (w : World) (hE : ES w) :
    Calls Tryz.prog 31 #[.string ⟨l.toArray⟩] w fun e w' => e = .returned (.tuple #[.string ⟨(strT l).toArray⟩, .int .i64 (strE l)]) ∧ Bl w w' := by
  by_cases h : 3000 < l.length
  · have h' : decide (3000 < l.length) = true := by simpa using h
    have HT := Lib.hid (show strE l = 2 by unfold strE; rw [if_pos h])
    have HI := Lib.hid (show strT l = [] by unfold strT; rw [if_pos h])
    clear h
    go_enter Tryz.func31, Tryz.ntmps31
    go_wp2_with (go_at_call 32; refine (long_c _ _).mono ?_; rintro e w' ⟨rfl, rfl⟩)
    go_ret2
    exact ⟨by rw [HT.out, HI.out]; rfl, Bl.refl _⟩
  · have h' : decide (3000 < l.length) = false := by simpa using h
    have TC := Lib.hid (fun W hW => taken_c l (by omega) W hW)
    have HL := Lib.hid h
    cases h2 : (Tk l).2
    · have HT := Lib.hid (show strE l = 1 by unfold strE; rw [if_neg h, h2]; rfl)
      have HI := Lib.hid (show strT l = [] by unfold strT; rw [if_neg h, h2]; rfl)
      clear h
      go_enter Tryz.func31, Tryz.ntmps31
      go_wp2_with (first | (go_at_call 32; refine (long_c _ _).mono ?_; rintro e w' ⟨rfl, rfl⟩) | (go_at_call 55; (with_reducible refine (TC.out _ hE).mono ?_); rintro e w' ⟨rfl, hb⟩) | go_quiet (fail))
      go_ret2
      exact ⟨by rw [HT.out, HI.out]; rfl, hb⟩
    · have HT := Lib.hid (show strE l = 0 by unfold strE; rw [if_neg h, h2]; rfl)
      have HI := Lib.hid (show strT l = (Tk l).1 by unfold strT; rw [if_neg h, h2]; rfl)
      clear h
      go_enter Tryz.func31, Tryz.ntmps31
      go_wp2_with (first | (go_at_call 32; refine (long_c _ _).mono ?_; rintro e w' ⟨rfl, rfl⟩) | (go_at_call 55; (with_reducible refine (TC.out _ hE).mono ?_); rintro e w' ⟨rfl, hb⟩) | go_quiet (fail))
      go_ret2
      exact ⟨by rw [HT.out, HI.out]; rfl, hb⟩

theorem bg1 : short [60, 97, 32, 38, 32, 39, 98, 39, 62] (PutL [60, 97, 32, 38, 32, 39, 98, 39, 62]) = [38, 108, 116, 59, 97, 32, 38, 97, 109, 112, 59, 32, 39, 98, 39, 38, 103, 116, 59] ∧ tooL [60, 97, 32, 38, 32, 39, 98, 39, 62] = 0 := by decide +kernel
theorem bg2 : short [38, 108, 116, 59, 38, 35, 54, 53, 59, 38, 35, 120, 50, 48, 97, 67, 59, 38, 97, 109, 112, 59, 38, 110, 111, 59, 38, 35, 48, 59] (Tk [38, 108, 116, 59, 38, 35, 54, 53, 59, 38, 35, 120, 50, 48, 97, 67, 59, 38, 97, 109, 112, 59, 38, 110, 111, 59, 38, 35, 48, 59]).1 = [60, 65, 226, 130, 172, 38, 38, 110, 111, 59, 239, 191, 189] ∧ tooL [38, 108, 116, 59, 38, 35, 54, 53, 59, 38, 35, 120, 50, 48, 97, 67, 59, 38, 97, 109, 112, 59, 38, 110, 111, 59, 38, 35, 48, 59] = 0 := by decide +kernel
theorem bg3 : strE [38, 110, 111, 59] = 1 := by decide +kernel
theorem bg4 : strT [38, 97, 112, 111, 115, 59] = [39] ∧ strE [38, 97, 112, 111, 115, 59] = 0 := by decide +kernel
set_option maxHeartbeats 1000000 in
set_option maxRecDepth 100000 in
theorem begun_c (w : World) (hE : ES w) : Calls Tryz.prog 15 #[] w fun e w' => e = .returned (.bool true) ∧ Bl w w' := by
  have p1 := fun W => Put_c [60, 97, 32, 38, 32, 39, 98, 39, 62] W
  have p2 := fun W hW => Take_c [38, 108, 116, 59, 38, 35, 54, 53, 59, 38, 35, 120, 50, 48, 97, 67, 59, 38, 97, 109, 112, 59, 38, 110, 111, 59, 38, 35, 48, 59] W hW
  have p3 := fun W hW => Strict_c [38, 110, 111, 59] W hW
  have p4 := fun W hW => Strict_c [38, 97, 112, 111, 115, 59] W hW
  rw [bg1.1, bg1.2] at p1
  rw [bg2.1, bg2.2] at p2
  rw [bg3] at p3
  rw [bg4.1, bg4.2] at p4
  have P1 := Lib.hid p1
  have P2 := Lib.hid p2
  have P3 := Lib.hid p3
  have P4 := Lib.hid p4
  clear p1 p2 p3 p4
  go_enter Tryz.func15, Tryz.ntmps15
  go_wp2_with (first | (go_at_call 16; (with_reducible refine (P1.out _).mono ?_); rintro e w1 ⟨rfl, hb1⟩; have h1 := hE.of_bl hb1) | (go_at_call 30; (with_reducible refine (P2.out _ h1).mono ?_); rintro e w2 ⟨rfl, hb2⟩; have h2 := h1.of_bl hb2) | (go_at_call 31; (with_reducible refine (P3.out _ h2).mono ?_); rintro e w3 ⟨rfl, hb3⟩; have h3 := h2.of_bl hb3) | (go_at_call 31; (with_reducible refine (P4.out _ h3).mono ?_); rintro e w4 ⟨rfl, hb4⟩) | go_quiet (fail))
  go_ret
  exact ⟨rfl, by repeat (first | exact Bl.refl _ | assumption | refine Bl.drewN ?_ _ | refine Bl.trans ?_ (by assumption))⟩
end Go.Proofs.YtkacjnifhmgeiaaGreatDoor

namespace Go.Proofs.YtkacjnifhmgeiaaGreatDoor
open Go.RowKit

/-- What a builder holds may go on. -/
structure OkS (s : St) (more : Nat) : Prop where
  iv : Iv s
  cnt : cntS s ≤ 90000
  txt : (ntxS s).length + more ≤ 1099511627776
theorem abI_rev (nm : Nm) (p : Nm → Bool) (l : List Nm) : abI nm p l.reverse = match abv nm p l with | some i => (i : Int) | none => -1 := by unfold abI; rw [List.reverse_reverse]; cases abv nm p l <;> rfl
end Go.Proofs.YtkacjnifhmgeiaaGreatDoor

namespace Go.Proofs.YtkacjnifhmgeiaaGreatDoor
open Go.RowKit

/-- A node in a block of its own. -/
def Nx (w : World) (q : Nat) (nm : Nm) (va : Value) : Prop := w.heap[q]? = some (.cells #[.string ⟨nm.toArray⟩, va, .string ⟨#[]⟩, .slice none 0 0] 25 (0, 0))
theorem Nx.cells {w : World} {q : Nat} {nm : Nm} {va : Value} (h : Nx w q nm va) : w.cell? ⟨q, 0, none⟩ = some (.string ⟨nm.toArray⟩) ∧ w.cell? ⟨q, 1, none⟩ = some va ∧ w.cell? ⟨q, 2, none⟩ = some (.string ⟨#[]⟩) ∧ w.cell? ⟨q, 3, none⟩ = some (.slice none 0 0) := by
  unfold Nx at h
  simp [World.cell?, h]
theorem Tryz.infoSl : (Tryz.prog.info? 23).map (fun i => (i.zero, i.size, i.bytes)) = some (some (.slice none 0 0), 1, 24) := by kernel_rfl
/-- A node's block that nothing has been put into yet. -/
def Nz (w : World) (q : Nat) : Prop := w.heap[q]? = some (.cells #[.string ⟨#[]⟩, .slice none 0 0, .string ⟨#[]⟩, .slice none 0 0] 25 (0, 0))
theorem Nz.cells {w : World} {q : Nat} (h : Nz w q) : w.cell? ⟨q, 0, none⟩ = some (.string ⟨#[]⟩) ∧ w.cell? ⟨q, 1, none⟩ = some (.slice none 0 0) ∧ w.cell? ⟨q, 2, none⟩ = some (.string ⟨#[]⟩) ∧ w.cell? ⟨q, 3, none⟩ = some (.slice none 0 0) ∧
    w.frozen? ⟨q, 0, none⟩ = false ∧ w.frozen? ⟨q, 1, none⟩ = false ∧ w.frozen? ⟨q, 2, none⟩ = false ∧ w.frozen? ⟨q, 3, none⟩ = false ∧ q < w.heap.size := by
  have hl := (Array.getElem?_eq_some_iff.1 h).1
  have h' : w.heap[q]? = _ := h
  have key : w.cell? ⟨q, 0, none⟩ = some (.string ⟨#[]⟩) ∧ w.cell? ⟨q, 1, none⟩ = some (.slice none 0 0) ∧ w.cell? ⟨q, 2, none⟩ = some (.string ⟨#[]⟩) ∧ w.cell? ⟨q, 3, none⟩ = some (.slice none 0 0) ∧
      w.frozen? ⟨q, 0, none⟩ = false ∧ w.frozen? ⟨q, 1, none⟩ = false ∧ w.frozen? ⟨q, 2, none⟩ = false ∧ w.frozen? ⟨q, 3, none⟩ = false := by
    clear h hl
    simp [World.cell?, World.frozen?, h']
  exact ⟨key.1, key.2.1, key.2.2.1, key.2.2.2.1, key.2.2.2.2.1, key.2.2.2.2.2.1, key.2.2.2.2.2.2.1, key.2.2.2.2.2.2.2, hl⟩
end Go.Proofs.YtkacjnifhmgeiaaGreatDoor

namespace Go.Proofs.YtkacjnifhmgeiaaGreatDoor
open Go.RowKit

def txB (l : List Tok) : Nat := (l.flatMap (·.2.2.2)).length
theorem txB_app (a c : List Tok) : txB (a ++ c) = txB a + txB c := by unfold txB; rw [List.flatMap_append, List.length_append]
theorem txB_cons (t : Tok) (l : List Tok) : txB (t :: l) = t.2.2.2.length + txB l := by unfold txB; rw [List.flatMap_cons, List.length_append]
end Go.Proofs.YtkacjnifhmgeiaaGreatDoor

namespace Go.Proofs.YtkacjnifhmgeiaaGreatDoor
open Go.RowKit

/-- What Build answers. -/
def bdT (l : List Tok) : List Nd := if ckE l = 0 then ofM l else []
end Go.Proofs.YtkacjnifhmgeiaaGreatDoor

namespace Go.Proofs.YtkacjnifhmgeiaaGreatDoor
open Go.RowKit

def trd : List UInt8 := [60, 112, 62, 97, 60, 98, 114, 62, 60, 117, 108, 62, 60, 108, 105, 62, 98, 60, 108, 105, 62, 99, 60, 47, 120, 62]
def pgL : List Nd := [.mk sP [] [] [.mk [] [] [97] [], .mk sBr [] [] []], .mk sUl [] [] [.mk sLi [] [] [.mk [] [] [98] []], .mk sLi [] [] [.mk [] [] [99] []]]]
theorem tg1 : rdE trd = 0 := by decide +kernel
theorem tg2 : ckE (rdT trd) = 0 := by decide +kernel
theorem tg3 : sameL (ofM (rdT trd)) pgL = true := by decide +kernel
theorem tg4 : bdT (rdT trd) = pgL := by unfold bdT; rw [if_pos tg2]; exact (sameL_iff _ _).1 tg3
theorem tg5 : ckT pgL = 0 := by decide +kernel
theorem tg6 : (fltL pgL).length = 12 := by decide +kernel
theorem tg7 : szT (rdT trd) ≤ 1099511627776 := by decide +kernel
theorem tg8 : txB (rdT trd) ≤ 1099511627776 := by decide +kernel
theorem tg9 : ∀ t ∈ rdT trd, t.2.2.1.length ≤ 100000000 := by decide +kernel
theorem tg10 : wtL pgL < 1000 := by decide +kernel
theorem tg11 : cntL pgL ≤ 1000 := by decide +kernel
end Go.Proofs.YtkacjnifhmgeiaaGreatDoor

namespace Go.Proofs.YtkacjnifhmgeiaaGreatDoor
open Go.RowKit

theorem NdC_of {w : World} {P : Nat → Prop} {g o : Nat} {n x : Nm} {ak : Option Addr} {ck : Nat} {k : List Nd} (c0 : w.cell? ⟨g, o, none⟩ = some (.string ⟨n.toArray⟩)) (c1 : w.cell? ⟨g, o + 1, none⟩ = some (.slice none 0 0)) (c2 : w.cell? ⟨g, o + 2, none⟩ = some (.string ⟨x.toArray⟩))
    (c3 : w.cell? ⟨g, o + 3, none⟩ = some (.slice ak k.length ck)) (hk : k.length ≤ ck) (hn : k ≠ [] → ∃ g' o', ak = some ⟨g', o', none⟩ ∧ g' < w.heap.size ∧ P g' ∧ NdL w P g' o' k) : NdC w P g o (.mk n [] x k) :=
  ⟨_, _, _, c0, c1, c2, c3, AtP.nil _ _, hk, hn⟩
theorem NdC_leaf {w : World} {P : Nat → Prop} {g o : Nat} {n x : Nm} (c0 : w.cell? ⟨g, o, none⟩ = some (.string ⟨n.toArray⟩)) (c1 : w.cell? ⟨g, o + 1, none⟩ = some (.slice none 0 0)) (c2 : w.cell? ⟨g, o + 2, none⟩ = some (.string ⟨x.toArray⟩))
    (c3 : w.cell? ⟨g, o + 3, none⟩ = some (.slice none 0 0)) : NdC w P g o (.mk n [] x []) :=
  NdC_of c0 c1 c2 c3 (Nat.le_refl _) (fun h => absurd rfl h)
theorem NdC_kids {w : World} {P : Nat → Prop} {g o g' o' ck : Nat} {n x : Nm} {k : List Nd} (c0 : w.cell? ⟨g, o, none⟩ = some (.string ⟨n.toArray⟩)) (c1 : w.cell? ⟨g, o + 1, none⟩ = some (.slice none 0 0)) (c2 : w.cell? ⟨g, o + 2, none⟩ = some (.string ⟨x.toArray⟩))
    (c3 : w.cell? ⟨g, o + 3, none⟩ = some (.slice (some ⟨g', o', none⟩) k.length ck)) (hk : k.length ≤ ck) (h1 : g' < w.heap.size) (h2 : P g') (h3 : NdL w P g' o' k) : NdC w P g o (.mk n [] x k) :=
  NdC_of c0 c1 c2 c3 hk (fun _ => ⟨g', o', rfl, h1, h2, h3⟩)
theorem cell_new {w : World} {c : Array Value} {e : TypeId} {n i : Nat} (hn : n = w.heap.size) : (w.alloc (.cells c e)).cell? ⟨n, i, none⟩ = c[i]? := by subst hn; simp
theorem cell_old {w : World} {o : Obj} {n i : Nat} (hn : n < w.heap.size) : (w.alloc o).cell? ⟨n, i, none⟩ = w.cell? ⟨n, i, none⟩ :=
  ((Bl.refl w).alloc o).cells.1 n i hn
end Go.Proofs.YtkacjnifhmgeiaaGreatDoor

namespace Go.Proofs.YtkacjnifhmgeiaaGreatDoor
open Go.RowKit

/-- The constant document. -/
def docN : Nd := .mk [114] [([97], [60, 38])] [] [.mk [] [] [120] [], .mk [110, 58, 101] [] [] []]
def docS : List UInt8 := [60, 114, 32, 97, 61, 34, 38, 108, 116, 59, 38, 97, 109, 112, 59, 34, 62, 120, 60, 110, 58, 101, 47, 62, 60, 47, 114, 62]
def docR : List UInt8 := [60, 63, 120, 109, 108, 32, 118, 101, 114, 115, 105, 111, 110, 61, 39, 49, 46, 48, 39, 63, 62, 60, 33, 45, 45, 32, 99, 32, 45, 45, 62, 60, 114, 32, 97, 32, 61, 32, 39, 38, 108, 116, 59, 38, 97, 109, 112, 59, 39, 62, 120, 60, 110, 58, 101, 62, 60, 47, 110, 58, 101, 32, 62, 60, 47, 114, 62, 32]
theorem doc_ck : ckX docN = 0 := by decide
theorem doc_wr : wrX docN = docS := by decide
theorem doc_pr : prX docN = (docS, 0) := by unfold prX; rw [if_pos doc_ck, doc_wr]
theorem doc_rd : rdX docR = .ok docN := by rfl
theorem doc_bad : rdX [60, 97, 62, 60, 47, 98, 62] = .error 4 := by rfl
set_option maxRecDepth 100000 in
set_option maxHeartbeats 4000000 in
theorem doc_c (w : World) :
    Calls Tryz.prog 26 #[] w fun e w' => ∃ va vk, e = .returned (.agg #[.string ⟨docN.n.toArray⟩, va, .string ⟨docN.x.toArray⟩, vk]) ∧ Bl w w' ∧ ∃ P, AtP w' P va docN.a ∧ NdS w' P vk docN.k := by
  have hZ0 := nb_new w []
  go_enter Tryz.func26, Tryz.ntmps26
  go_wp2
  go_returns
  refine ⟨_, _, rfl, (((Bl.refl _).alloc _).alloc _).alloc _, fun _ => True, ⟨some ⟨w.heap.size + 1, 0, none⟩, 1, rfl, Nat.le_refl _, fun i hi => ?_⟩, ⟨some ⟨w.heap.size + 1 + 1, 0, none⟩, 2, rfl, Nat.le_refl _, fun _ => ⟨_, _, rfl, by simp, trivial, ?_, ?_, trivial⟩⟩⟩
  · obtain rfl : i = 0 := by have : i < 1 := hi; omega
    refine ⟨w.heap.size + 1, 0, rfl, by simp, trivial, ?_, ?_⟩
    · rw [cell_old (by simp), cell_new (by simp)]; rfl
    · rw [cell_old (by simp), cell_new (by simp)]; rfl
  · exact NdC_leaf (by rw [cell_new (by simp)]; rfl) (by rw [cell_new (by simp)]; rfl) (by rw [cell_new (by simp)]; rfl) (by rw [cell_new (by simp)]; rfl)
  · exact NdC_leaf (by rw [cell_new (by simp)]; rfl) (by rw [cell_new (by simp)]; rfl) (by rw [cell_new (by simp)]; rfl) (by rw [cell_new (by simp)]; rfl)
end Go.Proofs.YtkacjnifhmgeiaaGreatDoor

/- Tokens: the reference: the text that has come out, put behind the tokens (TokensOf$1). -/
import Derived.Test.YtoaecehkmoehjaaGreatDoorTokJ
import Derived.Test.YtoaecehkmoehjaaGreatDoorTokU
import Derived.Test.YtoaecehkmoehjaaGreatDoorEscO
namespace Go.Proofs.YtoaecehkmoehjaaGreatDoor
open Go.RowKit

/-- The two variables: the text since the last tag, and the tokens. -/
structure TV (w : World) (bt bo : Nat) (x : List UInt8) (v : Value) : Prop where
  t : w.heap[bt]? = some (.cells #[.string ⟨x.toArray⟩] 9 (0, 0))
  o : w.heap[bo]? = some (.cells #[v] 22 (0, 0))
theorem TV.cells {w : World} {bt bo : Nat} {x : List UInt8} {v : Value} (h : TV w bt bo x v) :
    w.cell? ⟨bt, 0, none⟩ = some (.string ⟨x.toArray⟩) ∧ w.cell? ⟨bo, 0, none⟩ = some v ∧ w.frozen? ⟨bt, 0, none⟩ = false ∧ w.frozen? ⟨bo, 0, none⟩ = false := by
  obtain ⟨h1, h2⟩ := h
  simp [World.cell?, World.frozen?, h1, h2]
theorem TV.lt {w : World} {bt bo : Nat} {x : List UInt8} {v : Value} (h : TV w bt bo x v) : bt < w.heap.size ∧ bo < w.heap.size :=
  ⟨(Array.getElem?_eq_some_iff.1 h.t).1, (Array.getElem?_eq_some_iff.1 h.o).1⟩
theorem TV.of_gb {w w' : World} {bt bo : Nat} {x : List UInt8} {v : Value} {g : Option Nat} (h : TV w bt bo x v) (hg : w.grownBy w' g) (h1 : some bt ≠ g) (h2 : some bo ≠ g) : TV w' bt bo x v :=
  ⟨(hg.block bt h.lt.1 h1).trans h.t, (hg.block bo h.lt.2 h2).trans h.o⟩
theorem TV.of_bl {w w' : World} {bt bo : Nat} {x : List UInt8} {v : Value} (h : TV w bt bo x v) (hb : Bl w w') : TV w' bt bo x v := h.of_gb (gb_bl (b := none) hb) (by simp) (by simp)
theorem TV.sett {w : World} {bt bo : Nat} {x : List UInt8} {v : Value} (h : TV w bt bo x v) (hne : bt ≠ bo) (y : List UInt8) : TV (w.setCell ⟨bt, 0, none⟩ (.string ⟨y.toArray⟩)) bt bo y v := by
  obtain ⟨h1, h2⟩ := h
  exact ⟨by simp [World.setCell, h1, Array.getElem?_modify], by simp [World.setCell, h2, Array.getElem?_modify, hne]⟩
theorem TV.seto {w : World} {bt bo : Nat} {x : List UInt8} {v : Value} (h : TV w bt bo x v) (hne : bt ≠ bo) (u : Value) : TV (w.setCell ⟨bo, 0, none⟩ u) bt bo x u := by
  obtain ⟨h1, h2⟩ := h
  exact ⟨by simp [World.setCell, h1, Array.getElem?_modify, Ne.symm hne], by simp [World.setCell, h2, Array.getElem?_modify]⟩
/-- The variables, with tokens of the call's own. -/
def RS (w : World) (bt bo : Nat) (x : List UInt8) (l : List Tok) : Prop := ∃ v, TV w bt bo x v ∧ TkO w (bt + 1) v l
theorem RS.of_bl {w w' : World} {bt bo : Nat} {x : List UInt8} {l : List Tok} (h : RS w bt bo x l) (hb : Bl w w') : RS w' bt bo x l := by
  obtain ⟨v, h1, h2⟩ := h
  exact ⟨v, h1.of_bl hb, h2.of_bl hb⟩
theorem RS.sett {w : World} {bt bo : Nat} {x : List UInt8} {l : List Tok} (h : RS w bt bo x l) (hne : bo < bt) (y : List UInt8) : RS (w.setCell ⟨bt, 0, none⟩ (.string ⟨y.toArray⟩)) bt bo y l := by
  obtain ⟨v, h1, h2⟩ := h
  exact ⟨v, h1.sett (by omega) y, h2.of_gb (gb_set (b := bt) (gb_refl _ _) _ _) (Nat.lt_succ_self _)⟩
theorem RS.seto {w : World} {bt bo : Nat} {x : List UInt8} {l : List Tok} {u v : Value} (h : TV w bt bo x u) (hne : bo < bt) (hT : TkO w (bt + 1) v l) : RS (w.setCell ⟨bo, 0, none⟩ v) bt bo x l :=
  ⟨v, h.seto (by omega) v, hT.of_gb (gb_set (b := bo) (gb_refl _ _) _ _) (by omega)⟩
/-- Two blocks and a row alone have turned; there may be more. -/
structure Fr3 (a b : Nat) (g : Option Nat) (w w' : World) : Prop where
  os : w'.os = w.os
  tape : w'.tape = w.tape
  output : w'.output = w.output
  size : w.heap.size ≤ w'.heap.size
  block : ∀ k, k < w.heap.size → k ≠ a → k ≠ b → some k ≠ g → w'.heap[k]? = w.heap[k]?
theorem Fr3.of_gb {a b : Nat} {g : Option Nat} {w w' : World} {c : Nat} (h : w.grownBy w' (some c)) (hc : c = a ∨ c = b) : Fr3 a b g w w' := ⟨h.os, h.tape, h.output, h.size, fun k hk h1 h2 _ => h.block k hk (by simp; omega)⟩
theorem Fr3.of_bl {a b : Nat} {g : Option Nat} {w w' : World} (h : Bl w w') : Fr3 a b g w w' := Fr3.of_gb (gb_bl (b := some a) h) (.inl rfl)
theorem Fr3.of_gr {a b : Nat} {g : Option Nat} {w w' : World} (h : w.grownBy w' g) : Fr3 a b g w w' := ⟨h.os, h.tape, h.output, h.size, fun k hk _ _ h2 => h.block k hk h2⟩
theorem Fr3.trans {a b : Nat} {g : Option Nat} {x y z : World} (h : Fr3 a b g x y) (k : Fr3 a b g y z) : Fr3 a b g x z :=
  ⟨k.os.trans h.os, k.tape.trans h.tape, k.output.trans h.output, Nat.le_trans h.size k.size, fun i hi h1 h2 h3 => (k.block i (Nat.lt_of_lt_of_le hi h.size) h1 h2 h3).trans (h.block i hi h1 h2 h3)⟩
theorem Fr3.below {a b : Nat} {g : Option Nat} {w w' : World} {k : Nat} (h : Fr3 a b g w w') (ha : k ≤ a) (hb : k ≤ b) (hg : ∀ j, g = some j → k ≤ j) (hs : k ≤ w.heap.size) : Below k w w' :=
  ⟨h.os, h.tape, h.output, h.size, fun i hi => h.block i (by omega) (by omega) (by omega) (fun e => by have := hg i e.symm; omega)⟩
theorem own_fr3 {w w' : World} {base : Nat} {e : TypeId} {size n : Nat} {v : Value} {xs : List Value} {a b : Nat} {g : Option Nat} (h : w.ownsRow base e size v n xs) (hF : Fr3 a b g w w') (ha : a < base) (hb : b < base) (hg : v.ownBlock = none ∨ v.ownBlock ≠ g) : w'.ownsRow base e size v n xs := by
  refine ⟨h.1, ?_⟩
  rcases h.2 with hn | ⟨k, cap, cur, rfl, hk, hkk, rest⟩
  · exact .inl hn
  · refine .inr ⟨k, cap, cur, rfl, hk, ?_, rest⟩
    rw [hF.block k (Array.getElem?_eq_some_iff.1 hkk).1 (by omega) (by omega) (by simpa [Value.ownBlock] using hg)]
    exact hkk
set_option maxRecDepth 100000 in
set_option maxHeartbeats 2000000 in
theorem flushR_c (bt bo : Nat) (x : List UInt8) (l : List Tok) (v : Value) (w : World) (hV : TV w bt bo x v) (hT : TkO w (bt + 1) v l) (hne : bo < bt) (hx : x.length ≤ 1073741824) (hl : l.length ≤ 1073741824) :
    Calls Tryz.prog 23 #[.pointer (some ⟨bt, 0, none⟩), .pointer (some ⟨bo, 0, none⟩)] w fun e w' => e = .returned (.tuple #[]) ∧ RS w' bt bo [] (flsh x l) ∧ Fr3 bt bo v.ownBlock w w' := by
  obtain ⟨i0, hi, hz0, hz1, hz2⟩ := info_parts Tryz.infoTok
  obtain ⟨a0, a1, f0, f1⟩ := hV.cells
  obtain ⟨hb1, hb2⟩ := hV.lt
  have TC := Lib.hid (fun W => takeOf_c x (by omega) W)
  by_cases h0 : (Tk x).1 = []
  · have HF := Lib.hid (show flsh x l = l by unfold flsh; rw [if_pos h0])
    rw [h0] at TC
    clear h0
    go_enter Tryz.func23, Tryz.ntmps23
    go_wp2_with (go_at_call 24; (with_reducible refine (TC.out _).mono ?_); rintro e w1 ⟨rfl, hw1⟩; have hV1 := hV.of_bl hw1; clear a0 a1 f0 f1; obtain ⟨a0, a1, f0, f1⟩ := hV1.cells)
    go_end0
    refine ⟨rfl, ?_, ?_⟩
    · rw [HF.out]; exact RS.sett ⟨v, hV1, hT.of_bl hw1⟩ hne []
    · exact (Fr3.of_bl hw1).trans (Fr3.of_gb (gb_set (b := bt) (gb_refl _ _) _ _) (.inl rfl))
  · have HF := Lib.hid (show flsh x l = l ++ [(1, [], [], (Tk x).1)] by unfold flsh; rw [if_neg h0])
    obtain ⟨y, hy⟩ : ∃ y, y = (Tk x).1 := ⟨_, rfl⟩
    rw [← hy] at TC HF h0
    have hne2 : y.isEmpty = false := by cases y <;> simp_all
    clear hy h0
    go_enter Tryz.func23, Tryz.ntmps23
    go_wp2_with (first | (go_at_call 24; (with_reducible refine (TC.out _).mono ?_); rintro e w1 ⟨rfl, hw1⟩; have hV1 := hV.of_bl hw1; have hT1 := hT.of_bl hw1; clear a0 a1 f0 f1; obtain ⟨a0, a1, f0, f1⟩ := hV1.cells; obtain ⟨ents, e1, e2, e3⟩ := hT1; have hel : ents.length ≤ l.length := (by rw [← e1]; simp); have hs1 := Below.size hw1) | (at_builtin; refine wpList_append_own _ rfl _ _ 22 rfl (bt + 1) 37 i0 (.agg #[.int .i64 0, .string ⟨#[]⟩, .slice none 0 0, .string ⟨#[]⟩]) 4 64 Tryz.underlying22 hi hz0 hz1 hz2 rfl (by decide) _ _ _ rfl (World.ownsRow.alloc e2 _) ⟨w1.heap.size, 0, none⟩ 1 1 [.int .i64 1, .string ⟨#[]⟩, .slice none 0 0, .string ⟨y.toArray⟩] rfl rfl (new_cells w1 #[.int .i64 1, .string ⟨#[]⟩, .slice none 0 0, .string ⟨y.toArray⟩] _) (by simp [Value.oneCell']) (by unfold maxLen; omega) (by omega) (by simp; omega) ?_))
    intro v' wz hown' hgrow _
    obtain ⟨gv, cv, rfl⟩ := own_shape hown'
    have m1 := tk_meet (t := (1, [], [], y)) (va := .slice none 0 0) e1 (World.ownsRow.alloc e2 _) (fun p hp => (e3 p hp).of_bl ((Bl.refl _).alloc _)) (AtO.nil _ _) hown' hgrow
    have hvb := World.ownsRow.lt e2
    have hVz : TV wz bt bo x v := (hV1.of_bl ((Bl.refl _).alloc _)).of_gb hgrow (fun e => by have := (hvb bt e.symm).1; omega) (fun e => by have := (hvb bo e.symm).1; omega)
    have hFz : Fr3 bt bo v.ownBlock w wz := (Fr3.of_bl (hw1.alloc _)).trans (Fr3.of_gr hgrow)
    clear hown' hgrow a0 a1 f0 f1
    obtain ⟨a0, a1, f0, f1⟩ := hVz.cells
    obtain ⟨hb3, hb4⟩ := hVz.lt
    go_wp2
    go_end0
    refine ⟨rfl, ?_, ?_⟩
    · rw [HF.out]; exact (RS.seto hVz hne m1).sett hne []
    · exact hFz.trans ((Fr3.of_gb (gb_set (b := bo) (gb_refl _ _) _ _) (.inr rfl)).trans (Fr3.of_gb (gb_set (b := bt) (gb_refl _ _) _ _) (.inl rfl)))
end Go.Proofs.YtoaecehkmoehjaaGreatDoor

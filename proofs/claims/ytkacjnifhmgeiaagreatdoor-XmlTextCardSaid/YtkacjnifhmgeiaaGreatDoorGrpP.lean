/- escape.Take, Strict; what must be in any case; signs that are put are taken as they were. · Trees: a token comes: a text; one that closes. · Trees: a token comes that opens. -/
import Derived.Test.YtkacjnifhmgeiaaGreatDoorEscI
import Derived.Test.YtkacjnifhmgeiaaGreatDoorGrpJ
import Derived.Test.YtkacjnifhmgeiaaGreatDoorGrpM
import Derived.Deep.CutBlock
namespace Go.Proofs.YtkacjnifhmgeiaaGreatDoor
open Go.RowKit

theorem Take_c (l : List UInt8) (w : World) (hE : ES w) :
    Calls Tryz.prog 30 #[.string ⟨l.toArray⟩] w fun e w' => e = .returned (.tuple #[.string ⟨(short l (Tk l).1).toArray⟩, .int .i64 (tooL l)]) ∧ Bl w w' := by
  by_cases h : 3000 < l.length
  · have h' : decide (3000 < l.length) = true := by simpa using h
    have HT := Lib.hid (show tooL l = 2 by unfold tooL; rw [if_pos h])
    have HI := Lib.hid (show short l (Tk l).1 = [] by unfold short; rw [if_pos h])
    clear h
    go_enter Tryz.func30, Tryz.ntmps30
    go_wp2_with (go_at_call 32; refine (long_c _ _).mono ?_; rintro e w' ⟨rfl, rfl⟩)
    go_ret2
    exact ⟨by rw [HT.out, HI.out]; rfl, Bl.refl _⟩
  · have h' : decide (3000 < l.length) = false := by simpa using h
    have HT := Lib.hid (show tooL l = 0 by unfold tooL; rw [if_neg h])
    have HI := Lib.hid (show short l (Tk l).1 = (Tk l).1 by unfold short; rw [if_neg h])
    have TC := Lib.hid (fun W hW => taken_c l (by omega) W hW)
    clear h
    go_enter Tryz.func30, Tryz.ntmps30
    go_wp2_with (first | (go_at_call 32; refine (long_c _ _).mono ?_; rintro e w' ⟨rfl, rfl⟩) | (go_at_call 55; (with_reducible refine (TC.out _ hE).mono ?_); rintro e w' ⟨rfl, hb⟩) | go_quiet (fail))
    go_ret2
    exact ⟨by rw [HT.out, HI.out]; rfl, hb⟩
/-- Strict: its text and its errno. -/
def strT (l : List UInt8) : List UInt8 := if 3000 < l.length then [] else if (Tk l).2 then (Tk l).1 else []
def strE (l : List UInt8) : Int := if 3000 < l.length then 2 else if (Tk l).2 then 0 else 1
theorem Strict_c (l : List UInt8) (w : World) (hE : ES w) :
    Calls Tryz.prog 31 #[.string ⟨l.toArray⟩] w fun e w' => e = .returned (.tuple #[.string ⟨(strT l).toArray⟩, .int .i64 (strE l)]) ∧ Bl w w' := by
  by_cases h : 3000 < l.length
  · have h' : decide (3000 < l.length) = true := by simpa using h
    have HT := Lib.hid (show strE l = 2 by unfold strE; rw [if_pos h])
    have HI := Lib.hid (show strT l = [] by unfold strT; rw [if_pos h])
    clear h
    go_enter Tryz.func31, Tryz.ntmps31
    go_wp2_with (go_at_call 32; refine (long_c _ _).mono ?_; rintro e w' ⟨rfl, rfl⟩)
    go_ret2
    exact ⟨by rw [HT.out, HI.out]; rfl, Bl.refl _⟩
  · have h' : decide (3000 < l.length) = false := by simpa using h
    have TC := Lib.hid (fun W hW => taken_c l (by omega) W hW)
    have HL := Lib.hid h
    cases h2 : (Tk l).2
    · have HT := Lib.hid (show strE l = 1 by unfold strE; rw [if_neg h, h2]; rfl)
      have HI := Lib.hid (show strT l = [] by unfold strT; rw [if_neg h, h2]; rfl)
      clear h
      go_enter Tryz.func31, Tryz.ntmps31
      go_wp2_with (first | (go_at_call 32; refine (long_c _ _).mono ?_; rintro e w' ⟨rfl, rfl⟩) | (go_at_call 55; (with_reducible refine (TC.out _ hE).mono ?_); rintro e w' ⟨rfl, hb⟩) | go_quiet (fail))
      go_ret2
      exact ⟨by rw [HT.out, HI.out]; rfl, hb⟩
    · have HT := Lib.hid (show strE l = 0 by unfold strE; rw [if_neg h, h2]; rfl)
      have HI := Lib.hid (show strT l = (Tk l).1 by unfold strT; rw [if_neg h, h2]; rfl)
      clear h
      go_enter Tryz.func31, Tryz.ntmps31
      go_wp2_with (first | (go_at_call 32; refine (long_c _ _).mono ?_; rintro e w' ⟨rfl, rfl⟩) | (go_at_call 55; (with_reducible refine (TC.out _ hE).mono ?_); rintro e w' ⟨rfl, hb⟩) | go_quiet (fail))
      go_ret2
      exact ⟨by rw [HT.out, HI.out]; rfl, hb⟩

theorem bg1 : short [60, 97, 32, 38, 32, 39, 98, 39, 62] (PutL [60, 97, 32, 38, 32, 39, 98, 39, 62]) = [38, 108, 116, 59, 97, 32, 38, 97, 109, 112, 59, 32, 39, 98, 39, 38, 103, 116, 59] ∧ tooL [60, 97, 32, 38, 32, 39, 98, 39, 62] = 0 := by decide +kernel
theorem bg2 : short [38, 108, 116, 59, 38, 35, 54, 53, 59, 38, 35, 120, 50, 48, 97, 67, 59, 38, 97, 109, 112, 59, 38, 110, 111, 59, 38, 35, 48, 59] (Tk [38, 108, 116, 59, 38, 35, 54, 53, 59, 38, 35, 120, 50, 48, 97, 67, 59, 38, 97, 109, 112, 59, 38, 110, 111, 59, 38, 35, 48, 59]).1 = [60, 65, 226, 130, 172, 38, 38, 110, 111, 59, 239, 191, 189] ∧ tooL [38, 108, 116, 59, 38, 35, 54, 53, 59, 38, 35, 120, 50, 48, 97, 67, 59, 38, 97, 109, 112, 59, 38, 110, 111, 59, 38, 35, 48, 59] = 0 := by decide +kernel
theorem bg3 : strE [38, 110, 111, 59] = 1 := by decide +kernel
theorem bg4 : strT [38, 97, 112, 111, 115, 59] = [39] ∧ strE [38, 97, 112, 111, 115, 59] = 0 := by decide +kernel
set_option maxHeartbeats 1000000 in
set_option maxRecDepth 100000 in
theorem begun_c (w : World) (hE : ES w) : Calls Tryz.prog 15 #[] w fun e w' => e = .returned (.bool true) ∧ Bl w w' := by
  have p1 := fun W => Put_c [60, 97, 32, 38, 32, 39, 98, 39, 62] W
  have p2 := fun W hW => Take_c [38, 108, 116, 59, 38, 35, 54, 53, 59, 38, 35, 120, 50, 48, 97, 67, 59, 38, 97, 109, 112, 59, 38, 110, 111, 59, 38, 35, 48, 59] W hW
  have p3 := fun W hW => Strict_c [38, 110, 111, 59] W hW
  have p4 := fun W hW => Strict_c [38, 97, 112, 111, 115, 59] W hW
  rw [bg1.1, bg1.2] at p1
  rw [bg2.1, bg2.2] at p2
  rw [bg3] at p3
  rw [bg4.1, bg4.2] at p4
  have P1 := Lib.hid p1
  have P2 := Lib.hid p2
  have P3 := Lib.hid p3
  have P4 := Lib.hid p4
  clear p1 p2 p3 p4
  go_enter Tryz.func15, Tryz.ntmps15
  go_wp2_with (first | (go_at_call 16; (with_reducible refine (P1.out _).mono ?_); rintro e w1 ⟨rfl, hb1⟩; have h1 := hE.of_bl hb1) | (go_at_call 30; (with_reducible refine (P2.out _ h1).mono ?_); rintro e w2 ⟨rfl, hb2⟩; have h2 := h1.of_bl hb2) | (go_at_call 31; (with_reducible refine (P3.out _ h2).mono ?_); rintro e w3 ⟨rfl, hb3⟩; have h3 := h2.of_bl hb3) | (go_at_call 31; (with_reducible refine (P4.out _ h3).mono ?_); rintro e w4 ⟨rfl, hb4⟩) | go_quiet (fail))
  go_ret
  exact ⟨rfl, by repeat (first | exact Bl.refl _ | assumption | refine Bl.drewN ?_ _ | refine Bl.trans ?_ (by assumption))⟩
end Go.Proofs.YtkacjnifhmgeiaaGreatDoor

namespace Go.Proofs.YtkacjnifhmgeiaaGreatDoor
open Go.RowKit

/-- What a builder holds may go on. -/
structure OkS (s : St) (more : Nat) : Prop where
  iv : Iv s
  cnt : cntS s ≤ 90000
  txt : (ntxS s).length + more ≤ 1099511627776
theorem abI_rev (nm : Nm) (p : Nm → Bool) (l : List Nm) : abI nm p l.reverse = match abv nm p l with | some i => (i : Int) | none => -1 := by unfold abI; rw [List.reverse_reverse]; cases abv nm p l <;> rfl
end Go.Proofs.YtkacjnifhmgeiaaGreatDoor

namespace Go.Proofs.YtkacjnifhmgeiaaGreatDoor
open Go.RowKit

/-- A node in a block of its own. -/
def Nx (w : World) (q : Nat) (nm : Nm) (va : Value) : Prop := w.heap[q]? = some (.cells #[.string ⟨nm.toArray⟩, va, .string ⟨#[]⟩, .slice none 0 0] 25 (0, 0))
theorem Nx.cells {w : World} {q : Nat} {nm : Nm} {va : Value} (h : Nx w q nm va) : w.cell? ⟨q, 0, none⟩ = some (.string ⟨nm.toArray⟩) ∧ w.cell? ⟨q, 1, none⟩ = some va ∧ w.cell? ⟨q, 2, none⟩ = some (.string ⟨#[]⟩) ∧ w.cell? ⟨q, 3, none⟩ = some (.slice none 0 0) := by
  unfold Nx at h
  simp [World.cell?, h]
theorem Tryz.infoSl : (Tryz.prog.info? 23).map (fun i => (i.zero, i.size, i.bytes)) = some (some (.slice none 0 0), 1, 24) := by kernel_rfl
/-- A node's block that nothing has been put into yet. -/
def Nz (w : World) (q : Nat) : Prop := w.heap[q]? = some (.cells #[.string ⟨#[]⟩, .slice none 0 0, .string ⟨#[]⟩, .slice none 0 0] 25 (0, 0))
theorem Nz.cells {w : World} {q : Nat} (h : Nz w q) : w.cell? ⟨q, 0, none⟩ = some (.string ⟨#[]⟩) ∧ w.cell? ⟨q, 1, none⟩ = some (.slice none 0 0) ∧ w.cell? ⟨q, 2, none⟩ = some (.string ⟨#[]⟩) ∧ w.cell? ⟨q, 3, none⟩ = some (.slice none 0 0) ∧
    w.frozen? ⟨q, 0, none⟩ = false ∧ w.frozen? ⟨q, 1, none⟩ = false ∧ w.frozen? ⟨q, 2, none⟩ = false ∧ w.frozen? ⟨q, 3, none⟩ = false ∧ q < w.heap.size := by
  have hl := (Array.getElem?_eq_some_iff.1 h).1
  have h' : w.heap[q]? = _ := h
  have key : w.cell? ⟨q, 0, none⟩ = some (.string ⟨#[]⟩) ∧ w.cell? ⟨q, 1, none⟩ = some (.slice none 0 0) ∧ w.cell? ⟨q, 2, none⟩ = some (.string ⟨#[]⟩) ∧ w.cell? ⟨q, 3, none⟩ = some (.slice none 0 0) ∧
      w.frozen? ⟨q, 0, none⟩ = false ∧ w.frozen? ⟨q, 1, none⟩ = false ∧ w.frozen? ⟨q, 2, none⟩ = false ∧ w.frozen? ⟨q, 3, none⟩ = false := by
    clear h hl
    simp [World.cell?, World.frozen?, h']
  exact ⟨key.1, key.2.1, key.2.2.1, key.2.2.2.1, key.2.2.2.2.1, key.2.2.2.2.2.1, key.2.2.2.2.2.2.1, key.2.2.2.2.2.2.2, hl⟩
end Go.Proofs.YtkacjnifhmgeiaaGreatDoor

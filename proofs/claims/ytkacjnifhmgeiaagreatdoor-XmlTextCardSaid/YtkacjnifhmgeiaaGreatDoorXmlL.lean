/- Documents: Read. -/
import Derived.Test.YtkacjnifhmgeiaaGreatDoorXmlK
import Derived.Laws.ResultCell
namespace Go.Proofs.YtkacjnifhmgeiaaGreatDoor
open Go.RowKit

/-- What reading answers. -/
def rdX (s : List UInt8) : Except Int Nd := if 3000 < s.length then .error 2 else XmP s
set_option maxRecDepth 100000 in
set_option maxHeartbeats 4000000 in
theorem readX_c (s : List UInt8) (w : World) (hs : s.length ≤ 4611686018427387904) (hE : ES w) (hM : ML w) :
    Calls Tryz.prog 6 #[.string ⟨s.toArray⟩] w fun e w' => AllEnd w (rdX s) e w' := by
  have hZ0 := nb_new w []
  obtain ⟨z0, z1, z2, z3, y0, y1, y2, y3⟩ := hZ0.cells
  have hb0 : Bl w (w.alloc (.cells #[.string ⟨([] : List UInt8).toArray⟩, .slice none 0 0, .string ⟨#[]⟩, .slice none 0 0] 25)) := (Bl.refl _).alloc _
  by_cases h3 : 3000 < s.length
  · have h3' : (3000 : Int) < (s.length : Int) := by omega
    have ER := Lib.hid (show rdX s = .error 2 by unfold rdX; rw [if_pos h3])
    obtain ⟨r0, r1, r2, r3, -⟩ := (fin4_nb (n := []) (va := .slice none 0 0) (x := []) (vk := .slice none 0 0) hZ0).cells
    unfold fin4 at r0 r1 r2 r3
    go_enter Tryz.func6, Tryz.ntmps6
    go_wp2
    refine bodyPost_ret (v := .tuple #[.agg #[.string ⟨#[]⟩, .slice none 0 0, .string ⟨#[]⟩, .slice none 0 0], .int .i64 2]) (by simp [results, Tryz.results6, go_sem]) rfl ?_
    refine ⟨hb0, ?_⟩
    rw [ER.out]
  · have h3' : ¬ (3000 : Int) < (s.length : Int) := by omega
    have HR := Lib.hid (show rdX s = XmP s by unfold rdX; rw [if_neg h3])
    have AC := Lib.hid (allX_c s (w.alloc (.cells #[.string ⟨([] : List UInt8).toArray⟩, .slice none 0 0, .string ⟨#[]⟩, .slice none 0 0] 25)) (by omega) (hE.of_bl hb0) (hM.of_bl hb0))
    cases hX : XmP s with
    | error n =>
      rw [hX] at AC HR
      clear hX
      go_enter Tryz.func6, Tryz.ntmps6
      go_wp2_with (go_at_call 17; (with_reducible refine AC.out.mono ?_); rintro e w1 ⟨hb1, rfl⟩; have hZ1 := hZ0.of_bl hb1; clear z0 z1 z2 z3 y0 y1 y2 y3; obtain ⟨z0, z1, z2, z3, y0, y1, y2, y3⟩ := hZ1.cells)
      obtain ⟨r0, r1, r2, r3, -⟩ := (fin4_nb (n := []) (va := .slice none 0 0) (x := []) (vk := .slice none 0 0) hZ1).cells
      unfold fin4 at r0 r1 r2 r3
      refine bodyPost_ret (v := .tuple #[.agg #[.string ⟨#[]⟩, .slice none 0 0, .string ⟨#[]⟩, .slice none 0 0], .int .i64 n]) (by simp [results, Tryz.results6, go_sem, r0, r1, r2, r3]) rfl ?_
      have hb2 := hb0.trans hb1
      refine ⟨Below.setCell (Below.setCell (Below.setCell (Below.setCell hb2 (Nat.le_refl _) _) (Nat.le_refl _) _) (Nat.le_refl _) _) (Nat.le_refl _) _, ?_⟩
      rw [HR.out]
    | ok d =>
      rw [hX] at AC HR
      clear hX
      go_enter Tryz.func6, Tryz.ntmps6
      go_wp2_with (go_at_call 17; (with_reducible refine AC.out.mono ?_); rintro e w1 ⟨hb1, va, vk, rfl, P, hAt, hNk, hP⟩; obtain ⟨a1, c1, rfl, -⟩ := id hAt; obtain ⟨a2, c2, rfl, -⟩ := id hNk; have hZ1 := hZ0.of_bl hb1; clear z0 z1 z2 z3 y0 y1 y2 y3; obtain ⟨z0, z1, z2, z3, y0, y1, y2, y3⟩ := hZ1.cells)
      obtain ⟨r0, r1, r2, r3, -⟩ := (fin4_nb (n := d.n) (va := .slice a1 d.a.length c1) (x := d.x) (vk := .slice a2 d.k.length c2) hZ1).cells
      unfold fin4 at r0 r1 r2 r3
      refine bodyPost_ret (v := .tuple #[.agg #[.string ⟨d.n.toArray⟩, .slice a1 d.a.length c1, .string ⟨d.x.toArray⟩, .slice a2 d.k.length c2], .int .i64 0]) (by simp [results, Tryz.results6, go_sem, r0, r1, r2, r3]) rfl ?_
      have hb2 := hb0.trans hb1
      have hsz := alloc_size w (.cells #[.string ⟨([] : List UInt8).toArray⟩, .slice none 0 0, .string ⟨#[]⟩, .slice none 0 0] 25)
      have hPk : ¬ P w.heap.size := fun h => by have := (hP _ h).1; omega
      refine ⟨Below.setCell (Below.setCell (Below.setCell (Below.setCell hb2 (Nat.le_refl _) _) (Nat.le_refl _) _) (Nat.le_refl _) _) (Nat.le_refl _) _, ?_⟩
      rw [HR.out]
      have S4 : Still P w1 _ := (((Still.set w1 w.heap.size 0 (.string ⟨d.n.toArray⟩) hPk).trans (Still.set _ w.heap.size 1 (.slice a1 d.a.length c1) hPk)).trans (Still.set _ w.heap.size 2 (.string ⟨d.x.toArray⟩) hPk)).trans (Still.set _ w.heap.size 3 (.slice a2 d.k.length c2) hPk)
      refine ⟨_, _, rfl, P, hAt.still S4, hNk.still S4, fun k hk => ⟨by have := (hP k hk).1; omega, ?_⟩⟩
      simp only [World.size_setCell]
      exact (hP k hk).2
end Go.Proofs.YtkacjnifhmgeiaaGreatDoor

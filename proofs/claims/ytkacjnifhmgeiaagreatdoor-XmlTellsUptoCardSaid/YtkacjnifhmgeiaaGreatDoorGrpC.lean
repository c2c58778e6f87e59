/- strings.NewReplacer, (*Replacer).Replace, escape.put. · The reference's small functions that the seats beside the date's share. -/
import Derived.Test.YtkacjnifhmgeiaaGreatDoorEscD
import Derived.OwnWalk
import Derived.Test.YtkacjnifhmgeiaaGreatDoorGrpA
namespace Go.Proofs.YtkacjnifhmgeiaaGreatDoor
open Go.RowKit

theorem infoStr : (Tryz.prog.info? 9).map (fun i => (i.zero, i.size, i.bytes)) = some (some (.string ⟨#[]⟩), 1, 16) := by kernel_rfl
/-- Block g begins with the eight strings. -/
def E8 (w : World) (g : Nat) : Prop := ∀ j, (h : j < eight.size) → w.cell? ⟨g, j, none⟩ = some eight[j]
theorem E8.of_bl {w w' : World} {g : Nat} (h : E8 w g) (hb : Bl w w') (hg : g < w.heap.size) : E8 w' g := fun j hj => (hb.cells.1 g j hg).trans (h j hj)
/-- A Replacer's block: the mutex holds x, the replacer r, the strings o. -/
def RB (w : World) (b : Nat) (d x : Int) (r o : Value) : Prop := w.heap[b]? = some (.cells #[.int .u32 d, .int .i32 x, .int .u32 0, r, o] 103 (0, 0))
theorem RB.lt {w : World} {b : Nat} {d x : Int} {r o : Value} (h : RB w b d x r o) : b < w.heap.size := (Array.getElem?_eq_some_iff.1 h).1
theorem RB.cells {w : World} {b : Nat} {d x : Int} {r o : Value} (h : RB w b d x r o) :
    w.cell? ⟨b, 0, none⟩ = some (.int .u32 d) ∧ w.cell? ⟨b, 1, none⟩ = some (.int .i32 x) ∧ w.cell? ⟨b, 3, none⟩ = some r ∧ w.cell? ⟨b, 4, none⟩ = some o ∧ ∀ k, w.frozen? ⟨b, k, none⟩ = false := by
  unfold RB at h
  refine ⟨by simp [World.cell?, h], by simp [World.cell?, h], by simp [World.cell?, h], by simp [World.cell?, h], fun k => by simp [World.frozen?, h]⟩
theorem RB.set0 {w : World} {b : Nat} {d x : Int} {r o : Value} (h : RB w b d x r o) (y : Int) : RB (w.setCell ⟨b, 0, none⟩ (.int .u32 y)) b y x r o := by
  unfold RB at *; simp [World.setCell, Array.getElem?_modify, h]
theorem RB.set1 {w : World} {b : Nat} {d x : Int} {r o : Value} (h : RB w b d x r o) (y : Int) : RB (w.setCell ⟨b, 1, none⟩ (.int .i32 y)) b d y r o := by
  unfold RB at *; simp [World.setCell, Array.getElem?_modify, h]
theorem RB.set3 {w : World} {b : Nat} {d x : Int} {r o : Value} (h : RB w b d x r o) (y : Value) : RB (w.setCell ⟨b, 3, none⟩ y) b d x y o := by
  unfold RB at *; simp [World.setCell, Array.getElem?_modify, h]
theorem RB.set4 {w : World} {b : Nat} {d x : Int} {r o : Value} (h : RB w b d x r o) (y : Value) : RB (w.setCell ⟨b, 4, none⟩ y) b d x r y := by
  unfold RB at *; simp [World.setCell, Array.getElem?_modify, h]
theorem RB.of_bl {w w' : World} {b : Nat} {d x : Int} {r o : Value} (h : RB w b d x r o) (hb : Bl w w') : RB w' b d x r o := by
  have := h.lt
  unfold RB at *
  rw [Below.block hb b this, h]
theorem cell_far {w : World} {b k g i : Nat} {v : Value} (h : g ≠ b) : (w.setCell ⟨b, k, none⟩ v).cell? ⟨g, i, none⟩ = w.cell? ⟨g, i, none⟩ :=
  World.cell?_setCell_other _ ⟨b, k, none⟩ ⟨g, i, none⟩ _ (by simp [])
theorem BA.far {w : World} {b k g : Nat} {v : Value} {l : List UInt8} (h : BA w g l) (hg : g ≠ b) : BA (w.setCell ⟨b, k, none⟩ v) g l := fun i hi => (cell_far hg).trans (h i hi)
theorem RB.ne_bytes {w : World} {b : Nat} {d x : Int} {r o : Value} (h : RB w b d x r o) {g : Nat} {l : List UInt8} (hl : 0 < l.length) (hB : BA w g l) : g ≠ b := by
  rintro rfl
  have h1 := hB 0 hl
  rw [h.cells.1] at h1
  cases h1
theorem Bsr.set {w : World} {p b k : Nat} {d x : Int} {r o v : Value} (h : Bsr w p) (hb : RB w b d x r o) : Bsr (w.setCell ⟨b, k, none⟩ v) p := by
  have hp : p ≠ b := by
    rintro rfl
    have h1 := h.nil 0 (by omega) (by omega) (by omega) (by omega) (by omega)
    rw [hb.cells.1] at h1
    cases h1
  have hs : (w.setCell ⟨b, k, none⟩ v).heap.size = w.heap.size := by simp [World.setCell]
  refine ⟨fun c h0 h1 h2 h3 h4 => (cell_far hp).trans (h.nil c h0 h1 h2 h3 h4), ?_, ?_, ?_, ?_, ?_⟩
  · obtain ⟨g, c, h1, h2, h3⟩ := h.s34
    exact ⟨g, c, by omega, (cell_far hp).trans h2, h3.far (hb.ne_bytes (by simp) h3)⟩
  · obtain ⟨g, c, h1, h2, h3⟩ := h.s38
    exact ⟨g, c, by omega, (cell_far hp).trans h2, h3.far (hb.ne_bytes (by simp) h3)⟩
  · obtain ⟨g, c, h1, h2, h3⟩ := h.s60
    exact ⟨g, c, by omega, (cell_far hp).trans h2, h3.far (hb.ne_bytes (by simp) h3)⟩
  · obtain ⟨g, c, h1, h2, h3⟩ := h.s62
    exact ⟨g, c, by omega, (cell_far hp).trans h2, h3.far (hb.ne_bytes (by simp) h3)⟩
  · obtain ⟨q, h1, h2, h3, h4, h5, h6⟩ := h.rep
    have hq : q ≠ b := by
      rintro rfl
      rw [hb.cells.1] at h3
      cases h3
    exact ⟨q, by omega, (cell_far hp).trans h2, (cell_far hq).trans h3, (cell_far hq).trans h4, (cell_far hq).trans h5, (cell_far hq).trans h6⟩
theorem Bsr.of_bl {w w' : World} {p : Nat} (h : Bsr w p) (hp : p < w.heap.size) (hb : Bl w w') : Bsr w' p := by
  have hs := Below.size hb
  have hc := hb.cells.1
  refine ⟨fun c h0 h1 h2 h3 h4 => (hc p c hp).trans (h.nil c h0 h1 h2 h3 h4), ?_, ?_, ?_, ?_, ?_⟩
  · obtain ⟨g, c, h1, h2, h3⟩ := h.s34
    exact ⟨g, c, by omega, (hc p _ hp).trans h2, h3.of_bl hb h1⟩
  · obtain ⟨g, c, h1, h2, h3⟩ := h.s38
    exact ⟨g, c, by omega, (hc p _ hp).trans h2, h3.of_bl hb h1⟩
  · obtain ⟨g, c, h1, h2, h3⟩ := h.s60
    exact ⟨g, c, by omega, (hc p _ hp).trans h2, h3.of_bl hb h1⟩
  · obtain ⟨g, c, h1, h2, h3⟩ := h.s62
    exact ⟨g, c, by omega, (hc p _ hp).trans h2, h3.of_bl hb h1⟩
  · obtain ⟨q, h1, h2, h3, h4, h5, h6⟩ := h.rep
    exact ⟨q, by omega, (hc p _ hp).trans h2, (hc q _ h1).trans h3, (hc q _ h1).trans h4, (hc q _ h1).trans h5, (hc q _ h1).trans h6⟩
/-- Nothing that was there is turned but block b. -/
structure Mo (b : Nat) (w w' : World) : Prop where
  os : w'.os = w.os
  tape : w'.tape = w.tape
  output : w'.output = w.output
  size : w.heap.size ≤ w'.heap.size
  block : ∀ k, k < w.heap.size → k ≠ b → w'.heap[k]? = w.heap[k]?
theorem Mo.refl (b : Nat) (w : World) : Mo b w w := ⟨rfl, rfl, rfl, Nat.le_refl _, fun _ _ _ => rfl⟩
theorem Mo.trans {b : Nat} {x y z : World} (h : Mo b x y) (k : Mo b y z) : Mo b x z :=
  ⟨k.os.trans h.os, k.tape.trans h.tape, k.output.trans h.output, Nat.le_trans h.size k.size, fun i hi hb => (k.block i (Nat.lt_of_lt_of_le hi h.size) hb).trans (h.block i hi hb)⟩
theorem Mo.of_bl {b : Nat} {w w' : World} (h : Bl w w') : Mo b w w' := ⟨Below.os h, Below.tape h, Below.output h, Below.size h, fun k hk _ => Below.block h k hk⟩
theorem Mo.set {b : Nat} {x w : World} (h : Mo b x w) (o : Nat) (v : Value) : Mo b x (w.setCell ⟨b, o, none⟩ v) :=
  h.trans ⟨rfl, rfl, rfl, by simp [World.setCell], fun k _ hb => Below.heap_setCell _ _ _ _ hb⟩
/-- .. and block b is new. -/
theorem Mo.bl {b : Nat} {x w w' : World} (h : Mo b w w') (hx : Bl x w) (hb : x.heap.size ≤ b) : Bl x w' :=
  ⟨h.os.trans (Below.os hx), h.tape.trans (Below.tape hx), h.output.trans (Below.output hx), Nat.le_trans (Below.size hx) h.size, fun k hk => (h.block k (Nat.lt_of_lt_of_le hk (Below.size hx)) (by omega)).trans (Below.block hx k hk)⟩

set_option maxRecDepth 100000 in
set_option maxHeartbeats 1000000 in
theorem newR_c (o : Nat) (w : World) (_ho : o < w.heap.size) (hE : E8 w o) :
    Calls Tryz.prog 56 #[.slice (some ⟨o, 0, none⟩) 8 8] w fun e w' => ∃ b g cap, e = .returned (.pointer (some ⟨b, 0, none⟩)) ∧ w.heap.size ≤ b ∧ g < w'.heap.size ∧ g ≠ b ∧ w.heap.size ≤ g ∧ RB w' b 0 0 .nilIface (.slice (some ⟨g, 0, none⟩) 8 cap) ∧ E8 w' g ∧ Bl w w' := by
  obtain ⟨i0, hi, hz0, hz1, hz2⟩ := info_parts infoStr
  have hown : w.ownsRow w.heap.size 9 1 (.slice none 0 0) 0 [] := ⟨rfl, Or.inl ⟨rfl, rfl⟩⟩
  have hnews : ∀ j u, eight.toList[j]? = some u → w.cell? ((⟨o, 0, none⟩ : Addr).add j) = some u := by
    intro j u hj
    have hj' : j < eight.size := by
      rcases Nat.lt_or_ge j eight.size with h | h
      · exact h
      · rw [List.getElem?_eq_none (by simpa using h)] at hj; cases hj
    have ha : (⟨o, 0, none⟩ : Addr).add j = ⟨o, j, none⟩ := by unfold Addr.add; split <;> simp_all
    rw [ha, hE j hj']
    simpa [hj'] using hj
  have h1c : ∀ u ∈ eight.toList, u.oneCell' = true := by decide
  have HN := Lib.hid hnews
  have H1 := Lib.hid h1c
  clear hnews h1c
  go_enter Tryz.func56, Tryz.ntmps56
  go_wp2_with (at_builtin; refine wpList_append_own _ rfl _ _ 87 rfl w.heap.size 9 i0 (.string ⟨#[]⟩) 1 16 Tryz.underlying87 hi hz0 hz1 hz2 rfl (by decide) (.slice none 0 0) 0 [] rfl hown ⟨o, 0, none⟩ 8 8 eight.toList rfl rfl HN.out H1.out (by unfold maxLen; omega) (by omega) (Nat.le_refl _) ?_)
  intro v' w1 hown1 hgrow _
  obtain ⟨g, cap, cur, rfl, hg, hcur, -, -, -, hrow⟩ : ∃ g cap cur, v' = .slice (some ⟨g, 0, none⟩) (0 + 8) cap ∧ w.heap.size ≤ g ∧ w1.heap[g]? = some (.cells cur 9 (0, 0)) ∧ (0 + 8) ≤ cap ∧ cap ≤ maxLen ∧ cur.size = cap * 1 ∧ cur.toList.take ((0 + 8) * 1) = [] ++ eight.toList := by
    rcases hown1.2 with ⟨_, h0⟩ | h
    · omega
    · exact h
  have hlt : g < w1.heap.size := (Array.getElem?_eq_some_iff.1 hcur).1
  have hbl : Bl w w1 := ((Bl.refl w).grown hgrow (Nat.le_refl _) (fun k hk => by cases hk))
  go_wp2
  go_ret
  refine ⟨w1.heap.size, g, cap, rfl, hbl.size, by simp; omega, by omega, hg, ?_, ?_, hbl.alloc _⟩
  · unfold RB
    exact heap_alloc_last _ _
  · intro j hj
    rw [(((Bl.refl w1).alloc _).cells).1 g j hlt]
    have hj' : eight.toList[j]? = some eight[j] := by simp [hj]
    have hj8 : j < (0 + 8) * 1 := hj
    rw [show eight.toList = cur.toList.take ((0 + 8) * 1) from hrow.symm, List.getElem?_take_of_lt hj8] at hj'
    simpa [World.cell?, hcur] using hj'

theorem E8.at {w : World} {o : Nat} (h : E8 w o) : w.cell? ⟨o, 0, none⟩ = some (.string ⟨#[38]⟩) ∧ w.cell? ⟨o, 1, none⟩ = some (.string ⟨#[38, 97, 109, 112, 59]⟩) ∧ w.cell? ⟨o, 2, none⟩ = some (.string ⟨#[60]⟩) ∧
    w.cell? ⟨o, 3, none⟩ = some (.string ⟨#[38, 108, 116, 59]⟩) ∧ w.cell? ⟨o, 4, none⟩ = some (.string ⟨#[62]⟩) ∧ w.cell? ⟨o, 5, none⟩ = some (.string ⟨#[38, 103, 116, 59]⟩) ∧
    w.cell? ⟨o, 6, none⟩ = some (.string ⟨#[34]⟩) ∧ w.cell? ⟨o, 7, none⟩ = some (.string ⟨#[38, 113, 117, 111, 116, 59]⟩) :=
  ⟨h 0 (by decide), h 1 (by decide), h 2 (by decide), h 3 (by decide), h 4 (by decide), h 5 (by decide), h 6 (by decide), h 7 (by decide)⟩

/-- What buildOnce leaves. -/
def Built (b : Nat) (x : Int) (w w' : World) : Prop := ∃ p, RB w' b 0 x (.iface 139 (.pointer (some ⟨p, 0, none⟩))) (.slice none 0 0) ∧ Bsr w' p ∧ p < w'.heap.size ∧ p ≠ b ∧ Mo b w w'
set_option maxRecDepth 100000 in
set_option maxHeartbeats 1000000 in
theorem buildOnce_c (b g cap : Nat) (x : Int) (w : World) (hR : RB w b 0 x .nilIface (.slice (some ⟨g, 0, none⟩) 8 cap)) (hE : E8 w g) (hg : g < w.heap.size) :
    Calls Tryz.prog 77 #[.pointer (some ⟨b, 0, none⟩)] w fun e w' => e = .returned (.tuple #[]) ∧ Built b x w w' := by
  obtain ⟨c0, c1, c2, c3, c4, c5, c6, c7⟩ := hE.at
  have bt := build_t b g cap w hR.lt hg hR.cells.2.2.2.1 c0 c1 c2 c3 c4 c5 c6 c7
  have BT := Lib.hid bt
  clear bt c0 c1 c2 c3 c4 c5 c6 c7
  go_enter Tryz.func77, Tryz.ntmps77
  go_wp2_with (go_at_call 94; (with_reducible refine BT.out.mono ?_); rintro e w1 ⟨p, rfl, hp0, hp, hB, hb⟩; have hR1 := hR.of_bl hb; have hlt := hR1.lt; obtain ⟨-, -, q3, q4, qf⟩ := hR1.cells; have qf3 := qf 3; have qf4 := qf 4; clear qf)
  have hR2 := hR1.set3 (.iface 139 (.pointer (some ⟨p, 0, none⟩)))
  have hR3 := hR2.set4 (.slice none 0 0)
  have hB2 := hB.set (k := 3) (v := .iface 139 (.pointer (some ⟨p, 0, none⟩))) hR1
  have hB3 := hB2.set (k := 4) (v := .slice none 0 0) hR2
  have hpb : p ≠ b := by have := hR.lt; omega
  go_end0
  exact ⟨rfl, p, hR3, hB3, by simpa [World.setCell] using hp, hpb, ((Mo.of_bl hb).set _ _).set _ _⟩

/-- What Do leaves. -/
def Done (b : Nat) (w w' : World) : Prop := ∃ p, RB w' b 1 0 (.iface 139 (.pointer (some ⟨p, 0, none⟩))) (.slice none 0 0) ∧ Bsr w' p ∧ p < w'.heap.size ∧ Mo b w w'
theorem do_c (b g cap : Nat) (w : World) (hR : RB w b 0 0 .nilIface (.slice (some ⟨g, 0, none⟩) 8 cap)) (hE : E8 w g) (hg : g < w.heap.size) (hgb : g ≠ b) :
    Calls Tryz.prog 76 #[.pointer (some ⟨b, 0, none⟩), .func (.func 77) #[.pointer (some ⟨b, 0, none⟩)] #[]] w fun e w' => e = .returned (.tuple #[]) ∧ Done b w w' := by
  obtain ⟨q0, q1, -, -, qf⟩ := hR.cells
  have hR1 := hR.set1 1
  have hE1 : E8 (w.setCell ⟨b, 1, none⟩ (.int .i32 1)) g := fun j hj => (cell_far hgb).trans (hE j hj)
  have hB := buildOnce_c b g cap 1 _ hR1 hE1 (by simpa [World.setCell] using hg)
  refine (do_first b w (fun w' => Built b 1 (w.setCell ⟨b, 1, none⟩ (.int .i32 1)) w') q0 q1 (qf 0) (qf 1) (hB.mono fun e w' ⟨he, hb⟩ => by
    have hb' := hb
    obtain ⟨p, h1, -⟩ := hb
    obtain ⟨k0, k1, -, -, kf⟩ := h1.cells
    exact ⟨he, k0, k1, kf 0, kf 1, hb'⟩)).mono ?_
  rintro e w1 ⟨rfl, w2, hb, rfl⟩
  obtain ⟨p, h1, h2, h3, h4, h5⟩ := hb
  have h1d : RB w2.drew b 0 1 (.iface 139 (.pointer (some ⟨p, 0, none⟩))) (.slice none 0 0) := h1
  have h2d : Bsr w2.drew p := h2.of_bl h3 ((Bl.refl _).drew)
  have k1 := h1d.set0 1
  have m1 := h2d.set (k := 0) (v := .int .u32 1) h1d
  exact ⟨rfl, p, k1.set1 0, m1.set (k := 1) (v := .int .i32 0) k1, by simpa [World.setCell] using h3, (((((Mo.refl b w).set 1 (.int .i32 1)).trans h5).trans (Mo.of_bl ((Bl.refl _).drew))).set _ _).set _ _⟩

theorem nil_ahead (p : Nat) (w : World) : (nilAhead 157 139 (.pointer (some ⟨p, 0, none⟩)) "Replace").run Tryz.prog w = .ok (some false) w := by kernel_rfl
theorem method_replace (p : Nat) (w : World) : (method 157 139 (.pointer (some ⟨p, 0, none⟩)) "Replace").run Tryz.prog w = .ok (190, .pointer (some ⟨p, 0, none⟩)) w := by kernel_rfl
set_option maxRecDepth 100000 in
set_option maxHeartbeats 1000000 in
theorem replace_c (b g cap : Nat) (l : List UInt8) (hl : l.length ≤ 1099511627776) (w : World) (hR : RB w b 0 0 .nilIface (.slice (some ⟨g, 0, none⟩) 8 cap)) (hE : E8 w g) (hg : g < w.heap.size) (hgb : g ≠ b) :
    Calls Tryz.prog 57 #[.pointer (some ⟨b, 0, none⟩), .string ⟨l.toArray⟩] w fun e w' => e = .returned (.string ⟨(PutL l).toArray⟩) ∧ Mo b w w' := by
  have HD := Lib.hid (do_c b g cap w hR hE hg hgb)
  have na := nil_ahead
  have mr := method_replace
  go_enter Tryz.func57, Tryz.ntmps57
  go_wp2_with (first | (go_at_call 76; (with_reducible refine HD.out.mono ?_); rintro e W ⟨rfl, p, k2, m2, hps, hw⟩; have z3 := k2.cells.2.2.1; have HC := Lib.hid (bsr_c p l hl W m2 hps)) | (go_at_call 190; (with_reducible refine HC.out.mono ?_); rintro e w3 ⟨rfl, hb3⟩))
  go_ret
  exact ⟨rfl, hw.trans (Mo.of_bl hb3)⟩

theorem E8_new (w : World) (T : TypeId) : E8 (w.alloc (.cells eight T)) w.heap.size := by
  intro j hj
  rw [World.cell?_alloc_new]
  exact Array.getElem?_eq_getElem hj
set_option maxRecDepth 100000 in
set_option maxHeartbeats 1000000 in
theorem put_c (l : List UInt8) (hl : l.length ≤ 1099511627776) (w : World) :
    Calls Tryz.prog 33 #[.string ⟨l.toArray⟩] w fun e w' => e = .returned (.string ⟨(PutL l).toArray⟩) ∧ Bl w w' := by
  have HN := Lib.hid (newR_c w.heap.size (w.alloc (.cells eight 9)) (by simp) (E8_new w _))
  go_enter Tryz.func33, Tryz.ntmps33
  go_wp2_with (first | (go_at_call 56; refine HN.out.mono ?_; rintro e w1 ⟨b, g, cap, rfl, hb0, hg, hgb, -, hR, hE, hb1⟩) | (go_at_call 57; refine (replace_c b g cap l hl _ hR hE hg hgb).mono ?_; rintro e w2 ⟨rfl, hm⟩))
  go_ret
  have h1 : Bl w w1 := ((Bl.refl w).alloc _).trans hb1
  exact ⟨rfl, hm.bl h1 (by simp at hb0; omega)⟩
/-- What comes of a text that is not too long. -/
def short (l r : List UInt8) : List UInt8 := if 3000 < l.length then [] else r
theorem Put_c (l : List UInt8) (w : World) :
    Calls Tryz.prog 16 #[.string ⟨l.toArray⟩] w fun e w' => e = .returned (.tuple #[.string ⟨(short l (PutL l)).toArray⟩, .int .i64 (tooL l)]) ∧ Bl w w' := by
  by_cases h : 3000 < l.length
  · have h' : decide (3000 < l.length) = true := by simpa using h
    have HT := Lib.hid (show tooL l = 2 by unfold tooL; rw [if_pos h])
    have HI := Lib.hid (show short l (PutL l) = [] by unfold short; rw [if_pos h])
    clear h
    go_enter Tryz.func16, Tryz.ntmps16
    go_wp2_with (go_at_call 32; refine (long_c _ _).mono ?_; rintro e w' ⟨rfl, rfl⟩)
    go_ret2
    exact ⟨by rw [HT.out, HI.out]; rfl, Bl.refl _⟩
  · have h' : decide (3000 < l.length) = false := by simpa using h
    have HT := Lib.hid (show tooL l = 0 by unfold tooL; rw [if_neg h])
    have HI := Lib.hid (show short l (PutL l) = PutL l by unfold short; rw [if_neg h])
    have hl : l.length ≤ 1099511627776 := by omega
    clear h
    go_enter Tryz.func16, Tryz.ntmps16
    go_wp2_with (first | (go_at_call 32; refine (long_c _ _).mono ?_; rintro e w' ⟨rfl, rfl⟩) | (go_at_call 33; refine (put_c _ hl _).mono ?_; rintro e w' ⟨rfl, hb⟩) | go_quiet (fail))
    go_ret2
    exact ⟨by rw [HT.out, HI.out]; rfl, hb⟩
end Go.Proofs.YtkacjnifhmgeiaaGreatDoor

namespace Go.Proofs.YtkacjnifhmgeiaaGreatDoor
open Go.RowKit

def Dg (n base : Int) : Int :=
  let v := if 48 ≤ n ∧ n ≤ 57 then n - 48 else if 97 ≤ n ∧ n ≤ 102 then n - 97 + 10 else if 65 ≤ n ∧ n ≤ 70 then n - 65 + 10 else -1
  if base ≤ v then -1 else v
theorem between_c (a b c : Int) (w : World) :
    Calls Tryz.prog 65 #[.int .i64 a, .int .i64 b, .int .i64 c] w fun e w' => e = .returned (.bool (decide (b ≤ a) && decide (a ≤ c))) ∧ w = w' := by
  go_enter Tryz.func65, Tryz.ntmps65
  go_wp2
  all_goals (go_ret; exact ⟨ret_bool (by simp [*] <;> omega), rfl⟩)
theorem digit_c (n base : Int) (h0 : 0 ≤ n) (h1 : n ≤ 255) (w : World) :
    Calls Tryz.prog 98 #[.int .u8 n, .int .i64 base] w fun e w' => e = .returned (.int .i64 (Dg n base)) ∧ w = w' := by
  go_enter Tryz.func98, Tryz.ntmps98
  go_wp2_with (go_at_call 65; refine (between_c _ _ _ _).mono ?_; rintro e w' ⟨rfl, rfl⟩)
  all_goals (go_ret; exact ⟨ret_int (by simp only [Dg]; (repeat' split) <;> omega), rfl⟩)
end Go.Proofs.YtkacjnifhmgeiaaGreatDoor

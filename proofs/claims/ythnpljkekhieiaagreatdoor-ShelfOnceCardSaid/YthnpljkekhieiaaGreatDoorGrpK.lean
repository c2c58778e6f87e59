/- slices.IndexFunc, slices.ContainsFunc at structs: the closure's answer is asked for the elements that are there alone. · Shelves: the order of entries; what comes in keeps the order. · Rows of the call's own: append, told whether the row lies where it lay. -/
import Derived.Test.YthnpljkekhieiaaGreatDoorGrpA
import Derived.Test.YthnpljkekhieiaaGreatDoorGrpJ
import Derived.ArgAppend
import Derived.Laws.OwnMore
import Derived.Deep.RegionLaw
namespace Go.Proofs.YthnpljkekhieiaaGreatDoor
open Go.RowKit

/-- The first place at which a test holds; -1: there is none. -/
def ixB (b : Nat → Bool) (n : Nat) : Int := match (List.range n).find? b with | some i => (i : Int) | none => -1
theorem ixB_hit (b : Nat → Bool) (n k : Nat) (h : k < n) (hk : b k = true) (hb : ∀ j, j < k → b j = false) : ixB b n = k := by
  unfold ixB
  have e : (List.range n).find? b = some k := by
    rw [List.find?_range_eq_some]
    exact ⟨hk, List.mem_range.2 h, fun j hj => by simp [hb j hj]⟩
  rw [e]
theorem ixB_miss (b : Nat → Bool) (n : Nat) (hb : ∀ j, j < n → b j = false) : ixB b n = -1 := by
  unfold ixB
  have e : (List.range n).find? b = none := List.find?_eq_none.2 (fun j hj => by simp [hb j (List.mem_range.1 hj)])
  rw [e]
theorem ixB_any (b : Nat → Bool) (n : Nat) : decide (0 ≤ ixB b n) = (List.range n).any b := by
  unfold ixB
  cases h : (List.range n).find? b with
  | some i =>
    have h3 : (List.range n).any b = true := List.any_eq_true.2 ⟨i, List.mem_of_find?_eq_some h, List.find?_some h⟩
    rw [h3]; simp
  | none =>
    have h3 : (List.range n).any b = false := by
      rw [List.any_eq_false]; intro x hx; exact List.find?_eq_none.1 h x hx
    rw [h3]; simp
theorem any_range {α : Type} (p : α → Bool) (l : List α) (d : α) : ((List.range l.length).any fun i => p (l.getD i d)) = l.any p := by
  rw [Bool.eq_iff_iff, List.any_eq_true, List.any_eq_true]
  constructor
  · rintro ⟨i, hi, h⟩
    have hi := List.mem_range.1 hi
    rw [show l.getD i d = l[i] by simp [List.getD, hi]] at h
    exact ⟨_, List.getElem_mem hi, h⟩
  · rintro ⟨x, hx, h⟩
    obtain ⟨i, hi, rfl⟩ := List.getElem_of_mem hx
    exact ⟨i, List.mem_range.2 hi, by rw [show l.getD i d = l[i] by simp [List.getD, hi]]; exact h⟩
set_option maxHeartbeats 1000000 in
theorem indexF_A (N : Nat) (cap : Array Value) (hcf : ∀ (args : Array Value) (W : World), Sem.run Tryz.prog (callFunc N args) W = .ok (.enter N args) W) (n vc : Nat) (ao : Option Addr) (c0 c1 : Nat → Value) (b : Nat → Bool) (hn : n ≤ 1099511627776) (w : World)
    (hA : ∀ i, i < n → ∃ g o, ao = some ⟨g, o, none⟩ ∧ g < w.heap.size ∧ w.cell? ⟨g, o + i * 2, none⟩ = some (c0 i) ∧ w.cell? ⟨g, o + i * 2 + 1, none⟩ = some (c1 i))
    (hgo : ∀ i, i < n → ∀ W, Bl w W → Calls Tryz.prog N (#[.agg #[c0 i, c1 i]] ++ cap) W fun e w' => e = .returned (.bool (b i)) ∧ Bl W w') :
    Calls Tryz.prog 130 #[.slice ao n vc, .func (.func N) #[] cap] w fun e w' => e = .returned (.int .i64 (ixB b n)) ∧ Bl w w' := by
  have HD := Lib.hid hgo
  clear hgo
  go_enter Tryz.func130, Tryz.ntmps130
  go_wp2
  go_loopw [8] (fun i wr => ∃ k : Nat, k ≤ n ∧ i = .int .i64 k ∧ Hid (∀ j, j < k → b j = false) ∧ Bl w wr) (fun i _ => n - (intOf i).toNat)
  case atStart => exact ⟨0, Nat.zero_le _, rfl, Lib.hid (fun j h => by omega), Bl.refl _⟩
  case round =>
    obtain ⟨k, hk, rfl, HP, hbl⟩ := hrel
    by_cases hlt : k < n
    · obtain ⟨g, o, rfl, hg, h1, h2⟩ := hA k hlt
      have x1 := (hbl.cells.1 g _ hg).trans h1
      have x2 := (hbl.cells.1 g _ hg).trans h2
      have HG0 := HD.out k hlt wr hbl
      obtain ⟨d0, hd0⟩ : ∃ d, c0 k = d := ⟨_, rfl⟩
      obtain ⟨d1, hd1⟩ : ∃ d, c1 k = d := ⟨_, rfl⟩
      rw [hd0] at x1
      rw [hd1] at x2
      rw [hd0, hd1] at HG0
      have HG := Lib.hid HG0
      clear HG0 h1 h2 hA hd0 hd1
      cases hp : b k
      · have HF := Lib.hid hp
        rw [hp] at HG
        clear hp
        go_wp2_with (with_reducible refine HG.out.mono ?_; rintro e w' ⟨rfl, hb'⟩)
        go_roundw
        case rel =>
          refine ⟨k + 1, by omega, by go_num, Lib.hid (fun j hjk => ?_), hbl.trans hb'⟩
          by_cases e : j = k
          · subst e; exact HF.out
          · exact HP.out j (by omega)
        case measure => simp [intOf]; omega
      · have HF := Lib.hid hp
        rw [hp] at HG
        clear hp
        go_wp2_with (with_reducible refine HG.out.mono ?_; rintro e w' ⟨rfl, hb'⟩)
        go_ret
        exact ⟨ret_int (ixB_hit b n k hlt HF.out HP.out).symm, hbl.trans hb'⟩
    · go_wp2
      go_ret
      exact ⟨ret_int (ixB_miss b n (fun j hj => HP.out j (by omega))).symm, hbl⟩
set_option maxHeartbeats 1000000 in
theorem containsF_A (N : Nat) (cap : Array Value) (hcf : ∀ (args : Array Value) (W : World), Sem.run Tryz.prog (callFunc N args) W = .ok (.enter N args) W) (n vc : Nat) (ao : Option Addr) (c0 c1 : Nat → Value) (b : Nat → Bool) (hn : n ≤ 1099511627776) (w : World)
    (hA : ∀ i, i < n → ∃ g o, ao = some ⟨g, o, none⟩ ∧ g < w.heap.size ∧ w.cell? ⟨g, o + i * 2, none⟩ = some (c0 i) ∧ w.cell? ⟨g, o + i * 2 + 1, none⟩ = some (c1 i))
    (hgo : ∀ i, i < n → ∀ W, Bl w W → Calls Tryz.prog N (#[.agg #[c0 i, c1 i]] ++ cap) W fun e w' => e = .returned (.bool (b i)) ∧ Bl W w') :
    Calls Tryz.prog 94 #[.slice ao n vc, .func (.func N) #[] cap] w fun e w' => e = .returned (.bool ((List.range n).any b)) ∧ Bl w w' := by
  have HI := Lib.hid (indexF_A N cap hcf n vc ao c0 c1 b hn w hA hgo)
  have HX := Lib.hid (ixB_any b n)
  clear hA hgo
  go_enter Tryz.func94, Tryz.ntmps94
  go_wp2_with (go_at_call 130; (with_reducible refine HI.out.mono ?_); rintro e w' ⟨rfl, hb'⟩)
  go_ret
  exact ⟨ret_bool HX.out, hb'⟩
set_option maxHeartbeats 1000000 in
theorem indexF_N (N : Nat) (cap : Array Value) (hcf : ∀ (args : Array Value) (W : World), Sem.run Tryz.prog (callFunc N args) W = .ok (.enter N args) W) (n vc : Nat) (ao : Option Addr) (c0 c1 c2 c3 : Nat → Value) (b : Nat → Bool) (hn : n ≤ 1099511627776) (w : World)
    (hA : ∀ i, i < n → ∃ g o, ao = some ⟨g, o, none⟩ ∧ g < w.heap.size ∧ w.cell? ⟨g, o + i * 4, none⟩ = some (c0 i) ∧ w.cell? ⟨g, o + i * 4 + 1, none⟩ = some (c1 i) ∧ w.cell? ⟨g, o + i * 4 + 2, none⟩ = some (c2 i) ∧ w.cell? ⟨g, o + i * 4 + 3, none⟩ = some (c3 i))
    (hgo : ∀ i, i < n → ∀ W, Bl w W → Calls Tryz.prog N (#[.agg #[c0 i, c1 i, c2 i, c3 i]] ++ cap) W fun e w' => e = .returned (.bool (b i)) ∧ Bl W w') :
    Calls Tryz.prog 129 #[.slice ao n vc, .func (.func N) #[] cap] w fun e w' => e = .returned (.int .i64 (ixB b n)) ∧ Bl w w' := by
  have HD := Lib.hid hgo
  clear hgo
  go_enter Tryz.func129, Tryz.ntmps129
  go_wp2
  go_loopw [8] (fun i wr => ∃ k : Nat, k ≤ n ∧ i = .int .i64 k ∧ Hid (∀ j, j < k → b j = false) ∧ Bl w wr) (fun i _ => n - (intOf i).toNat)
  case atStart => exact ⟨0, Nat.zero_le _, rfl, Lib.hid (fun j h => by omega), Bl.refl _⟩
  case round =>
    obtain ⟨k, hk, rfl, HP, hbl⟩ := hrel
    by_cases hlt : k < n
    · obtain ⟨g, o, rfl, hg, h1, h2, h3, h4⟩ := hA k hlt
      have x1 := (hbl.cells.1 g _ hg).trans h1
      have x2 := (hbl.cells.1 g _ hg).trans h2
      have x3 := (hbl.cells.1 g _ hg).trans h3
      have x4 := (hbl.cells.1 g _ hg).trans h4
      have HG0 := HD.out k hlt wr hbl
      obtain ⟨d0, hd0⟩ : ∃ d, c0 k = d := ⟨_, rfl⟩
      obtain ⟨d1, hd1⟩ : ∃ d, c1 k = d := ⟨_, rfl⟩
      obtain ⟨d2, hd2⟩ : ∃ d, c2 k = d := ⟨_, rfl⟩
      obtain ⟨d3, hd3⟩ : ∃ d, c3 k = d := ⟨_, rfl⟩
      rw [hd0] at x1
      rw [hd1] at x2
      rw [hd2] at x3
      rw [hd3] at x4
      rw [hd0, hd1, hd2, hd3] at HG0
      have HG := Lib.hid HG0
      clear HG0 h1 h2 h3 h4 hA hd0 hd1 hd2 hd3
      cases hp : b k
      · have HF := Lib.hid hp
        rw [hp] at HG
        clear hp
        go_wp2_with (with_reducible refine HG.out.mono ?_; rintro e w' ⟨rfl, hb'⟩)
        go_roundw
        case rel =>
          refine ⟨k + 1, by omega, by go_num, Lib.hid (fun j hjk => ?_), hbl.trans hb'⟩
          by_cases e : j = k
          · subst e; exact HF.out
          · exact HP.out j (by omega)
        case measure => simp [intOf]; omega
      · have HF := Lib.hid hp
        rw [hp] at HG
        clear hp
        go_wp2_with (with_reducible refine HG.out.mono ?_; rintro e w' ⟨rfl, hb'⟩)
        go_ret
        exact ⟨ret_int (ixB_hit b n k hlt HF.out HP.out).symm, hbl.trans hb'⟩
    · go_wp2
      go_ret
      exact ⟨ret_int (ixB_miss b n (fun j hj => HP.out j (by omega))).symm, hbl⟩
set_option maxHeartbeats 1000000 in
theorem containsF_N (N : Nat) (cap : Array Value) (hcf : ∀ (args : Array Value) (W : World), Sem.run Tryz.prog (callFunc N args) W = .ok (.enter N args) W) (n vc : Nat) (ao : Option Addr) (c0 c1 c2 c3 : Nat → Value) (b : Nat → Bool) (hn : n ≤ 1099511627776) (w : World)
    (hA : ∀ i, i < n → ∃ g o, ao = some ⟨g, o, none⟩ ∧ g < w.heap.size ∧ w.cell? ⟨g, o + i * 4, none⟩ = some (c0 i) ∧ w.cell? ⟨g, o + i * 4 + 1, none⟩ = some (c1 i) ∧ w.cell? ⟨g, o + i * 4 + 2, none⟩ = some (c2 i) ∧ w.cell? ⟨g, o + i * 4 + 3, none⟩ = some (c3 i))
    (hgo : ∀ i, i < n → ∀ W, Bl w W → Calls Tryz.prog N (#[.agg #[c0 i, c1 i, c2 i, c3 i]] ++ cap) W fun e w' => e = .returned (.bool (b i)) ∧ Bl W w') :
    Calls Tryz.prog 92 #[.slice ao n vc, .func (.func N) #[] cap] w fun e w' => e = .returned (.bool ((List.range n).any b)) ∧ Bl w w' := by
  have HI := Lib.hid (indexF_N N cap hcf n vc ao c0 c1 c2 c3 b hn w hA hgo)
  have HX := Lib.hid (ixB_any b n)
  clear hA hgo
  go_enter Tryz.func92, Tryz.ntmps92
  go_wp2_with (go_at_call 129; (with_reducible refine HI.out.mono ?_); rintro e w' ⟨rfl, hb'⟩)
  go_ret
  exact ⟨ret_bool HX.out, hb'⟩
set_option maxHeartbeats 1000000 in
theorem indexF_E (N : Nat) (cap : Array Value) (hcf : ∀ (args : Array Value) (W : World), Sem.run Tryz.prog (callFunc N args) W = .ok (.enter N args) W) (n vc : Nat) (ao : Option Addr) (c0 c1 c2 c3 c4 : Nat → Value) (b : Nat → Bool) (hn : n ≤ 1099511627776) (w : World)
    (hA : ∀ i, i < n → ∃ g o, ao = some ⟨g, o, none⟩ ∧ g < w.heap.size ∧ w.cell? ⟨g, o + i * 5, none⟩ = some (c0 i) ∧ w.cell? ⟨g, o + i * 5 + 1, none⟩ = some (c1 i) ∧ w.cell? ⟨g, o + i * 5 + 2, none⟩ = some (c2 i) ∧ w.cell? ⟨g, o + i * 5 + 3, none⟩ = some (c3 i) ∧ w.cell? ⟨g, o + i * 5 + 4, none⟩ = some (c4 i))
    (hgo : ∀ i, i < n → ∀ W, Bl w W → Calls Tryz.prog N (#[.agg #[c0 i, c1 i, c2 i, c3 i, c4 i]] ++ cap) W fun e w' => e = .returned (.bool (b i)) ∧ Bl W w') :
    Calls Tryz.prog 45 #[.slice ao n vc, .func (.func N) #[] cap] w fun e w' => e = .returned (.int .i64 (ixB b n)) ∧ Bl w w' := by
  have HD := Lib.hid hgo
  clear hgo
  go_enter Tryz.func45, Tryz.ntmps45
  go_wp2
  go_loopw [8] (fun i wr => ∃ k : Nat, k ≤ n ∧ i = .int .i64 k ∧ Hid (∀ j, j < k → b j = false) ∧ Bl w wr) (fun i _ => n - (intOf i).toNat)
  case atStart => exact ⟨0, Nat.zero_le _, rfl, Lib.hid (fun j h => by omega), Bl.refl _⟩
  case round =>
    obtain ⟨k, hk, rfl, HP, hbl⟩ := hrel
    by_cases hlt : k < n
    · obtain ⟨g, o, rfl, hg, h1, h2, h3, h4, h5⟩ := hA k hlt
      have x1 := (hbl.cells.1 g _ hg).trans h1
      have x2 := (hbl.cells.1 g _ hg).trans h2
      have x3 := (hbl.cells.1 g _ hg).trans h3
      have x4 := (hbl.cells.1 g _ hg).trans h4
      have x5 := (hbl.cells.1 g _ hg).trans h5
      have HG0 := HD.out k hlt wr hbl
      obtain ⟨d0, hd0⟩ : ∃ d, c0 k = d := ⟨_, rfl⟩
      obtain ⟨d1, hd1⟩ : ∃ d, c1 k = d := ⟨_, rfl⟩
      obtain ⟨d2, hd2⟩ : ∃ d, c2 k = d := ⟨_, rfl⟩
      obtain ⟨d3, hd3⟩ : ∃ d, c3 k = d := ⟨_, rfl⟩
      obtain ⟨d4, hd4⟩ : ∃ d, c4 k = d := ⟨_, rfl⟩
      rw [hd0] at x1
      rw [hd1] at x2
      rw [hd2] at x3
      rw [hd3] at x4
      rw [hd4] at x5
      rw [hd0, hd1, hd2, hd3, hd4] at HG0
      have HG := Lib.hid HG0
      clear HG0 h1 h2 h3 h4 h5 hA hd0 hd1 hd2 hd3 hd4
      cases hp : b k
      · have HF := Lib.hid hp
        rw [hp] at HG
        clear hp
        go_wp2_with (with_reducible refine HG.out.mono ?_; rintro e w' ⟨rfl, hb'⟩)
        go_roundw
        case rel =>
          refine ⟨k + 1, by omega, by go_num, Lib.hid (fun j hjk => ?_), hbl.trans hb'⟩
          by_cases e : j = k
          · subst e; exact HF.out
          · exact HP.out j (by omega)
        case measure => simp [intOf]; omega
      · have HF := Lib.hid hp
        rw [hp] at HG
        clear hp
        go_wp2_with (with_reducible refine HG.out.mono ?_; rintro e w' ⟨rfl, hb'⟩)
        go_ret
        exact ⟨ret_int (ixB_hit b n k hlt HF.out HP.out).symm, hbl.trans hb'⟩
    · go_wp2
      go_ret
      exact ⟨ret_int (ixB_miss b n (fun j hj => HP.out j (by omega))).symm, hbl⟩
end Go.Proofs.YthnpljkekhieiaaGreatDoor

namespace Go.Proofs.YthnpljkekhieiaaGreatDoor
open Go.RowKit

def ltT (a b : Nm) : Prop := Op.bytesLess a b = true
theorem ltT_irr (a : Nm) : ¬ ltT a a := by
  unfold ltT
  induction a with
  | nil => simp [Op.bytesLess]
  | cons c l ih => simp [Op.bytesLess, ih]
theorem ltT_trans : ∀ {a b c : Nm}, ltT a b → ltT b c → ltT a c := by
  unfold ltT
  intro a
  induction a with
  | nil =>
    intro b c h1 h2
    cases c with
    | nil => cases b <;> simp [Op.bytesLess] at h2
    | cons z c => simp [Op.bytesLess]
  | cons x a ih =>
    intro b c h1 h2
    cases b with
    | nil => simp [Op.bytesLess] at h1
    | cons y b =>
      cases c with
      | nil => simp [Op.bytesLess] at h2
      | cons z c =>
        simp only [Op.bytesLess, Bool.or_eq_true, decide_eq_true_eq, Bool.and_eq_true, beq_iff_eq] at h1 h2 ⊢
        rcases h1 with h1 | ⟨rfl, h1⟩
        · rcases h2 with h2 | ⟨rfl, h2⟩
          · exact .inl (UInt8.lt_trans h1 h2)
          · exact .inl h1
        · rcases h2 with h2 | ⟨rfl, h2⟩
          · exact .inl h2
          · exact .inr ⟨rfl, ih h1 h2⟩
theorem u8_tri (x y : UInt8) : x < y ∨ x = y ∨ y < x := by
  rcases Nat.lt_trichotomy x.toNat y.toNat with h | h | h
  · exact .inl h
  · exact .inr (.inl (UInt8.toNat_inj.1 h))
  · exact .inr (.inr h)
theorem ltT_tot : ∀ (a b : Nm), a ≠ b → ltT a b ∨ ltT b a := by
  unfold ltT
  intro a
  induction a with
  | nil =>
    intro b h
    cases b with
    | nil => exact absurd rfl h
    | cons y b => simp [Op.bytesLess]
  | cons x a ih =>
    intro b h
    cases b with
    | nil => simp [Op.bytesLess]
    | cons y b =>
      simp only [Op.bytesLess, Bool.or_eq_true, decide_eq_true_eq, Bool.and_eq_true, beq_iff_eq]
      rcases u8_tri x y with h1 | rfl | h1
      · exact .inl (.inl h1)
      · rcases ih b (fun e => h (by rw [e])) with h2 | h2
        · exact .inl (.inr ⟨rfl, h2⟩)
        · exact .inr (.inr ⟨rfl, h2⟩)
      · exact .inr (.inl h1)
theorem cmpT_lt : ∀ (a b : Nm), cmpT a b < 0 ↔ ltT a b := by
  unfold ltT cmpT
  intro a
  induction a with
  | nil => intro b; cases b <;> simp [Lib.compareBytes, Op.bytesLess]
  | cons x a ih =>
    intro b
    cases b with
    | nil => simp [Lib.compareBytes, Op.bytesLess]
    | cons y b =>
      simp only [Lib.compareBytes, Op.bytesLess, Bool.or_eq_true, decide_eq_true_eq, Bool.and_eq_true, beq_iff_eq]
      by_cases h1 : x < y
      · rw [if_pos h1]; simp [h1]
      · rw [if_neg h1]
        by_cases h2 : y < x
        · rw [if_pos h2]
          have : x ≠ y := by rintro rfl; exact h1 h2
          simp [h1, this]
        · rw [if_neg h2, ih b]
          have : x = y := by rcases u8_tri x y with h | h | h; exact absurd h h1; exact h; exact absurd h h2
          simp [this]
/-- An entry stands ahead of another one. -/
def Ahd (a b : Ent) : Prop := ordE a b < 0
theorem Ahd_iff (a b : Ent) : Ahd a b ↔ eA b < eA a ∨ eA a = eA b ∧ ltT (eI a) (eI b) := by
  unfold Ahd ordE
  split
  · rename_i h; constructor
    · intro h2; exact .inl (by omega)
    · rintro (h2 | ⟨h2, _⟩)
      · omega
      · exact absurd h2 h
  · rename_i h
    have h : eA a = eA b := by simpa using h
    rw [cmpT_lt]
    constructor
    · intro h2; exact .inr ⟨h, h2⟩
    · rintro (h2 | ⟨_, h2⟩)
      · omega
      · exact h2
theorem Ahd_irr (a : Ent) : ¬ Ahd a a := by
  rw [Ahd_iff]; rintro (h | ⟨_, h⟩)
  · omega
  · exact ltT_irr _ h
theorem Ahd_trans {a b c : Ent} (h : Ahd a b) (k : Ahd b c) : Ahd a c := by
  rw [Ahd_iff] at *
  rcases h with h | ⟨h, h'⟩ <;> rcases k with k | ⟨k, k'⟩
  · exact .inl (by omega)
  · exact .inl (by omega)
  · exact .inl (by omega)
  · exact .inr ⟨by omega, ltT_trans h' k'⟩
theorem Ahd_tot {a b : Ent} (h : eI a ≠ eI b) : Ahd a b ∨ Ahd b a := by
  rw [Ahd_iff, Ahd_iff]
  by_cases e : eA a = eA b
  · rcases ltT_tot _ _ h with k | k
    · exact .inl (.inr ⟨e, k⟩)
    · exact .inr (.inr ⟨e.symm, k⟩)
  · by_cases e2 : eA b < eA a
    · exact .inl (.inl e2)
    · exact .inr (.inl (by omega))
theorem ordE_nn (a b : Ent) : 0 ≤ ordE a b ↔ ¬ Ahd a b := by unfold Ahd; omega
/-- In order, each id once. -/
def Srt (l : List Ent) : Prop := l.Pairwise Ahd
def Ids (l : List Ent) : Prop := l.Pairwise fun a b => eI a ≠ eI b
theorem ids_inj {l : List Ent} (h : Ids l) {a b : Ent} (ha : a ∈ l) (hb : b ∈ l) (e : eI a = eI b) : a = b := by
  induction l with
  | nil => simp at ha
  | cons c l ih =>
    obtain ⟨h1, h2⟩ := List.pairwise_cons.1 h
    rcases List.mem_cons.1 ha with k1 | k1
    · rcases List.mem_cons.1 hb with k2 | k2
      · rw [k1, k2]
      · rw [k1] at e; exact absurd e (h1 b k2)
    · rcases List.mem_cons.1 hb with k2 | k2
      · rw [k2] at e; exact absurd e.symm (h1 a k1)
      · exact ih h2 k1 k2
theorem srt_ext : ∀ {l m : List Ent}, Srt l → Srt m → (∀ x, x ∈ l ↔ x ∈ m) → l = m
  | [], [], _, _, _ => rfl
  | [], b :: m, _, _, h => by have := (h b).2 (by simp); simp at this
  | a :: l, [], _, _, h => by have := (h a).1 (by simp); simp at this
  | a :: l, b :: m, h1, h2, h => by
    obtain ⟨p1, p2⟩ := List.pairwise_cons.1 h1
    obtain ⟨q1, q2⟩ := List.pairwise_cons.1 h2
    have hab : a = b := by
      rcases List.mem_cons.1 ((h a).1 (by simp)) with e | e
      · exact e
      · rcases List.mem_cons.1 ((h b).2 (by simp)) with e2 | e2
        · exact e2.symm
        · exact absurd (Ahd_trans (p1 b e2) (q1 a e)) (Ahd_irr a)
    subst hab
    refine congrArg _ (srt_ext p2 q2 fun x => ⟨fun hx => ?_, fun hx => ?_⟩)
    · rcases List.mem_cons.1 ((h x).1 (List.mem_cons_of_mem _ hx)) with rfl | e
      · exact absurd (p1 x hx) (Ahd_irr x)
      · exact e
    · rcases List.mem_cons.1 ((h x).2 (List.mem_cons_of_mem _ hx)) with rfl | e
      · exact absurd (q1 x hx) (Ahd_irr x)
      · exact e
theorem mem_insA {α : Type} (l : List α) (i : Nat) (x y : α) : y ∈ insA l i x ↔ y = x ∨ y ∈ l := by
  unfold insA
  rw [List.mem_append, List.mem_cons]
  conv => rhs; rw [← List.take_append_drop i l, List.mem_append]
  exact ⟨fun h => by rcases h with h | h | h; exact .inr (.inl h); exact .inl h; exact .inr (.inr h), fun h => by rcases h with h | h | h; exact .inr (.inl h); exact .inl h; exact .inr (.inr h)⟩
theorem len_insA {α : Type} (l : List α) (i : Nat) (x : α) : (insA l i x).length = l.length + 1 := by
  unfold insA; rw [List.length_append, List.length_cons, List.length_take, List.length_drop]; omega
theorem len_delA {α : Type} (l : List α) (i : Nat) (h : i < l.length) : (delA l i).length = l.length - 1 := by
  unfold delA; rw [List.length_append, List.length_take, List.length_drop]; omega
theorem sub_delA {α : Type} (l : List α) (i : Nat) : (delA l i).Sublist l := by
  have h : (l.take i ++ l.drop (i + 1)).Sublist (l.take i ++ l.drop i) := List.Sublist.append (List.Sublist.refl _) (by
    rw [← List.drop_drop]
    exact List.drop_sublist _ _)
  rw [List.take_append_drop] at h
  exact h
/-- Where the cut lies, by a test that holds of a head alone. -/
theorem bs_cut {n : Nat} (p : Nat → Bool) (h : ∀ a b, a ≤ b → b < n → p b = true → p a = true) :
    Lib.bsGo p n 0 n ≤ n ∧ (∀ t, t < Lib.bsGo p n 0 n → p t = true) ∧ ∀ t, Lib.bsGo p n 0 n ≤ t → t < n → p t = false := by
  have H : ∀ (f lo hi : Nat), hi - lo ≤ f → lo ≤ hi → hi ≤ n → (∀ t, t < lo → p t = true) → (∀ t, hi ≤ t → t < n → p t = false) →
      Lib.bsGo p f lo hi ≤ n ∧ (∀ t, t < Lib.bsGo p f lo hi → p t = true) ∧ ∀ t, Lib.bsGo p f lo hi ≤ t → t < n → p t = false := by
    intro f
    induction f with
    | zero =>
      intro lo hi h1 h2 h3 h4 h5
      have : hi = lo := by omega
      subst this
      exact ⟨h3, h4, h5⟩
    | succ f ih =>
      intro lo hi h1 h2 h3 h4 h5
      unfold Lib.bsGo
      by_cases hlt : lo < hi
      · rw [if_pos hlt]
        cases hp : p ((lo + hi) / 2) with
        | true => rw [if_pos rfl]; exact ih _ _ (by omega) (by omega) h3 (fun t ht => h t _ (by omega) (by omega) hp) h5
        | false =>
          rw [if_neg (by simp)]
          refine ih _ _ (by omega) (by omega) (by omega) h4 (fun t ht htn => ?_)
          cases hq : p t with
          | false => rfl
          | true => have := h ((lo + hi) / 2) t ht htn hq; rw [hp] at this; exact absurd this (by simp)
      · rw [if_neg hlt]
        have : hi = lo := by omega
        subst this
        exact ⟨h3, h4, h5⟩
  exact H n 0 n (by omega) (by omega) (by omega) (fun t ht => by omega) (fun t h1 h2 => by omega)
theorem getD_get {α : Type} (l : List α) (d : α) (i : Nat) (h : i < l.length) : l.getD i d = l[i] := by simp [List.getD, h]
theorem pw_get {α : Type} {R : α → α → Prop} {l : List α} (h : l.Pairwise R) {i j : Nat} (hij : i < j) (hj : j < l.length) : R (l[i]'(by omega)) l[j] := List.pairwise_iff_getElem.1 h i j (by omega) hj hij
theorem bsE_cut {l : List Ent} (h : Srt l) (x : Ent) : bsE l x ≤ l.length ∧ (∀ y ∈ l.take (bsE l x), Ahd y x) ∧ ∀ y ∈ l.drop (bsE l x), ¬ Ahd y x := by
  have H := bs_cut (n := l.length) (fun t => decide (ordE (l.getD t default) x < 0)) (fun a b hab hb hp => by
    by_cases e : a = b
    · subst e; exact hp
    · have h2 := pw_get h (show a < b by omega) hb
      simp only [decide_eq_true_eq] at hp ⊢
      rw [getD_get _ _ _ hb] at hp
      rw [getD_get _ _ _ (by omega)]
      exact Ahd_trans h2 hp)
  refine ⟨H.1, fun y hy => ?_, fun y hy => ?_⟩
  · obtain ⟨t, ht, rfl⟩ := List.getElem_of_mem hy
    rw [List.length_take] at ht
    have := H.2.1 t (by show t < bsE l x; omega)
    simp only [decide_eq_true_eq] at this
    rw [getD_get _ _ _ (by omega)] at this
    rw [List.getElem_take]; exact this
  · obtain ⟨t, ht, rfl⟩ := List.getElem_of_mem hy
    rw [List.length_drop] at ht
    have := H.2.2 (bsE l x + t) (by show bsE l x ≤ _; omega) (by omega)
    simp only [decide_eq_false_iff_not] at this
    rw [getD_get _ _ _ (by omega)] at this
    rw [List.getElem_drop]; exact this
theorem insE_srt {l : List Ent} (h : Srt l) (hi : Ids l) (x : Ent) (hx : ∀ y ∈ l, eI y ≠ eI x) : Srt (insE l x) ∧ Ids (insE l x) := by
  obtain ⟨h1, h2, h3⟩ := bsE_cut h x
  have h4 : Srt (l.take (bsE l x) ++ l.drop (bsE l x)) := by rw [List.take_append_drop]; exact h
  have i4 : Ids (l.take (bsE l x) ++ l.drop (bsE l x)) := by rw [List.take_append_drop]; exact hi
  obtain ⟨a1, a2, a3⟩ := List.pairwise_append.1 h4
  obtain ⟨b1, b2, b3⟩ := List.pairwise_append.1 i4
  unfold insE insA Srt Ids
  constructor
  · refine List.pairwise_append.2 ⟨a1, List.pairwise_cons.2 ⟨fun y hy => ?_, a2⟩, fun y hy z hz => ?_⟩
    · rcases Ahd_tot (fun e => hx y (List.mem_of_mem_drop hy) e.symm : eI x ≠ eI y) with k | k
      · exact k
      · exact absurd k (h3 y hy)
    · rcases List.mem_cons.1 hz with rfl | hz
      · exact h2 y hy
      · exact a3 y hy z hz
  · refine List.pairwise_append.2 ⟨b1, List.pairwise_cons.2 ⟨fun y hy e => hx y (List.mem_of_mem_drop hy) e.symm, b2⟩, fun y hy z hz => ?_⟩
    rcases List.mem_cons.1 hz with rfl | hz
    · exact hx y (List.mem_of_mem_take hy)
    · exact b3 y hy z hz
theorem plE_some {l : List Ent} {i : Nm} {k : Nat} (h : plE l i = some k) : ∃ hk : k < l.length, eI l[k] = i := by
  obtain ⟨hk, h2, _⟩ := List.findIdx?_eq_some_iff_getElem.1 h
  exact ⟨hk, by simpa using h2⟩
theorem plE_none {l : List Ent} {i : Nm} (h : plE l i = none) : ∀ y ∈ l, eI y ≠ i := by
  intro y hy
  have := List.findIdx?_eq_none_iff.1 h y hy
  simpa using this
theorem mem_delA {l : List Ent} (hi : Ids l) (k : Nat) (hk : k < l.length) (y : Ent) : y ∈ delA l k ↔ y ∈ l ∧ eI y ≠ eI l[k] := by
  have e : l = l.take k ++ l[k] :: l.drop (k + 1) := by rw [← List.drop_eq_getElem_cons hk, List.take_append_drop]
  have hi2 : Ids (l.take k ++ l[k] :: l.drop (k + 1)) := by rw [← e]; exact hi
  obtain ⟨b1, b2, b3⟩ := List.pairwise_append.1 hi2
  obtain ⟨c1, c2⟩ := List.pairwise_cons.1 b2
  unfold delA
  constructor
  · intro h
    rcases List.mem_append.1 h with h | h
    · exact ⟨List.mem_of_mem_take h, b3 y h _ List.mem_cons_self⟩
    · exact ⟨List.mem_of_mem_drop h, fun e => c1 y h e.symm⟩
  · rintro ⟨h, hn⟩
    rw [e] at h
    rcases List.mem_append.1 h with h | h
    · exact List.mem_append.2 (.inl h)
    · rcases List.mem_cons.1 h with rfl | h
      · exact absurd rfl hn
      · exact List.mem_append.2 (.inr h)
/-- What is there behind a put. -/
theorem putE_ok {l : List Ent} (h : Srt l) (hi : Ids l) (x : Ent) : Srt (putE l x) ∧ Ids (putE l x) ∧
    ∀ y, y ∈ putE l x ↔ (y = x ∧ ∀ z ∈ l, eI z = eI x → eA z ≤ eA x) ∨ (y ∈ l ∧ (eI y = eI x → eA x < eA y)) := by
  unfold putE
  cases hp : plE l (eI x) with
  | none =>
    have hx := plE_none hp
    obtain ⟨h1, h2⟩ := insE_srt h hi x hx
    refine ⟨h1, h2, fun y => ?_⟩
    show y ∈ insE l x ↔ _
    unfold insE
    rw [mem_insA]
    constructor
    · rintro (rfl | h)
      · exact .inl ⟨rfl, fun z hz e => absurd e (hx z hz)⟩
      · exact .inr ⟨h, fun e => absurd e (hx y h)⟩
    · rintro (⟨rfl, _⟩ | ⟨h, _⟩)
      · exact .inl rfl
      · exact .inr h
  | some k =>
    obtain ⟨hk, he⟩ := plE_some hp
    show Srt (if eA x < eA (l.getD k default) then l else insE (delA l k) x) ∧ _
    simp only [getD_get _ _ _ hk]
    by_cases ha : eA x < eA l[k]
    · rw [if_pos ha]
      refine ⟨h, hi, fun y => ⟨fun hy => .inr ⟨hy, fun e => ?_⟩, ?_⟩⟩
      · have : y = l[k] := ids_inj hi hy (List.getElem_mem hk) (e.trans he.symm)
        rw [this]; exact ha
      · rintro (⟨rfl, hz⟩ | ⟨hy, _⟩)
        · have := hz l[k] (List.getElem_mem hk) he; omega
        · exact hy
    · rw [if_neg ha]
      have hm := mem_delA hi k hk
      have hx : ∀ y ∈ delA l k, eI y ≠ eI x := fun y hy => by have := ((hm y).1 hy).2; rw [he] at this; exact this
      obtain ⟨h1, h2⟩ := insE_srt (List.Pairwise.sublist (sub_delA l k) h) (List.Pairwise.sublist (sub_delA l k) hi) x hx
      refine ⟨h1, h2, fun y => ?_⟩
      unfold insE
      rw [mem_insA, hm]
      constructor
      · rintro (rfl | ⟨h, hn⟩)
        · refine .inl ⟨rfl, fun z hz e => ?_⟩
          have : z = l[k] := ids_inj hi hz (List.getElem_mem hk) (e.trans he.symm)
          rw [this]; omega
        · exact .inr ⟨h, fun e => absurd (e.trans he.symm) hn⟩
      · rintro (⟨rfl, _⟩ | ⟨h, hn⟩)
        · exact .inl rfl
        · by_cases e : eI y = eI x
          · have : y = l[k] := ids_inj hi h (List.getElem_mem hk) (e.trans he.symm)
            have h3 := hn e
            rw [this] at h3; omega
          · exact .inr ⟨h, fun e2 => e (e2.trans he)⟩
theorem foldl_ok (ls : List Ent) : ∀ {l : List Ent}, Srt l → Ids l → Srt (ls.foldl putE l) ∧ Ids (ls.foldl putE l) ∧ ∀ y ∈ ls.foldl putE l, y ∈ l ∨ y ∈ ls := by
  induction ls with
  | nil => intro l h hi; exact ⟨h, hi, fun y hy => .inl hy⟩
  | cons x ls ih =>
    intro l h hi
    obtain ⟨a1, a2, a3⟩ := putE_ok h hi x
    obtain ⟨b1, b2, b3⟩ := ih a1 a2
    refine ⟨b1, b2, fun y hy => ?_⟩
    rcases b3 y hy with k | k
    · rcases (a3 y).1 k with ⟨rfl, _⟩ | ⟨k, _⟩
      · exact .inr (by simp)
      · exact .inl k
    · exact .inr (List.mem_cons_of_mem _ k)
/-- An id that is there stays, and gets no older; so does one that comes. -/
theorem putE_keep {l : List Ent} (h : Srt l) (hi : Ids l) (x : Ent) {y : Ent} (hy : y ∈ l) : ∃ z ∈ putE l x, eI z = eI y ∧ eA y ≤ eA z := by
  obtain ⟨_, _, a3⟩ := putE_ok h hi x
  by_cases e : eI y = eI x ∧ eA y ≤ eA x
  · refine ⟨x, (a3 x).2 (.inl ⟨rfl, fun z hz ez => ?_⟩), e.1.symm, e.2⟩
    rw [ids_inj hi hz hy (ez.trans e.1.symm)]; exact e.2
  · refine ⟨y, (a3 y).2 (.inr ⟨hy, fun e2 => ?_⟩), rfl, Int.le_refl _⟩
    by_cases e3 : eA y ≤ eA x
    · exact absurd ⟨e2, e3⟩ e
    · omega
theorem putE_come {l : List Ent} (h : Srt l) (hi : Ids l) (x : Ent) : ∃ z ∈ putE l x, eI z = eI x ∧ eA x ≤ eA z ∧ (z = x ∨ eA x < eA z) := by
  obtain ⟨_, _, a3⟩ := putE_ok h hi x
  by_cases e : ∀ z ∈ l, eI z = eI x → eA z ≤ eA x
  · exact ⟨x, (a3 x).2 (.inl ⟨rfl, e⟩), rfl, Int.le_refl _, .inl rfl⟩
  · simp only [Classical.not_forall] at e
    obtain ⟨z, hz, ez, hlt⟩ := e
    exact ⟨z, (a3 z).2 (.inr ⟨hz, fun _ => by omega⟩), ez, by omega, .inr (by omega)⟩
theorem foldl_keep (ls : List Ent) : ∀ {l : List Ent}, Srt l → Ids l → ∀ y ∈ l, ∃ z ∈ ls.foldl putE l, eI z = eI y ∧ eA y ≤ eA z := by
  induction ls with
  | nil => intro l h hi y hy; exact ⟨y, hy, rfl, Int.le_refl _⟩
  | cons x ls ih =>
    intro l h hi y hy
    obtain ⟨a1, a2, _⟩ := putE_ok h hi x
    obtain ⟨z, hz, e1, e2⟩ := putE_keep h hi x hy
    obtain ⟨u, hu, e3, e4⟩ := ih a1 a2 z hz
    exact ⟨u, hu, e3.trans e1, by omega⟩
theorem foldl_come (ls : List Ent) : ∀ {l : List Ent}, Srt l → Ids l → ∀ y ∈ ls, ∃ z ∈ ls.foldl putE l, eI z = eI y ∧ eA y ≤ eA z := by
  induction ls with
  | nil => intro l h hi y hy; simp at hy
  | cons x ls ih =>
    intro l h hi y hy
    obtain ⟨a1, a2, _⟩ := putE_ok h hi x
    rcases List.mem_cons.1 hy with rfl | hy
    · obtain ⟨z, hz, e1, e2, _⟩ := putE_come h hi y
      obtain ⟨u, hu, e3, e4⟩ := foldl_keep ls a1 a2 z hz
      exact ⟨u, hu, e3.trans e1, by omega⟩
    · exact ih a1 a2 y hy
theorem foldl_same (ls : List Ent) : ∀ {l : List Ent}, Srt l → Ids l → ∀ y ∈ l, (∀ x ∈ ls, eI x ≠ eI y) → y ∈ ls.foldl putE l := by
  induction ls with
  | nil => intro l h hi y hy _; exact hy
  | cons x ls ih =>
    intro l h hi y hy hn
    obtain ⟨a1, a2, a3⟩ := putE_ok h hi x
    exact ih a1 a2 y ((a3 y).2 (.inr ⟨hy, fun e => absurd e.symm (hn x (by simp))⟩)) (fun z hz => hn z (List.mem_cons_of_mem _ hz))
/-- Of entries of which no id comes twice each is there, or a newer one of its id is. -/
theorem foldl_once (ls : List Ent) : ∀ {l : List Ent}, Srt l → Ids l → Ids ls → ∀ y ∈ ls, y ∈ ls.foldl putE l ∨ ∃ z ∈ ls.foldl putE l, eI z = eI y ∧ eA y < eA z := by
  induction ls with
  | nil => intro l h hi _ y hy; simp at hy
  | cons x ls ih =>
    intro l h hi hd y hy
    obtain ⟨d1, d2⟩ := List.pairwise_cons.1 hd
    obtain ⟨a1, a2, _⟩ := putE_ok h hi x
    rcases List.mem_cons.1 hy with rfl | hy
    · obtain ⟨z, hz, e1, _, e2⟩ := putE_come h hi y
      rcases e2 with rfl | e2
      · exact .inl (foldl_same ls a1 a2 z hz (fun u hu e => d1 u hu e.symm))
      · obtain ⟨u, hu, e3, e4⟩ := foldl_keep ls a1 a2 z hz
        exact .inr ⟨u, hu, e3.trans e1, by omega⟩
    · exact ih a1 a2 d2 y hy
theorem take_mem_ahd {F : List Ent} (h : Srt F) (n : Nat) {t y : Ent} (ht : t ∈ F.take n) (hy : y ∈ F) (hn : y ∉ F.take n) : Ahd t y := by
  have h2 : Srt (F.take n ++ F.drop n) := by rw [List.take_append_drop]; exact h
  obtain ⟨_, _, h3⟩ := List.pairwise_append.1 h2
  rw [← List.take_append_drop n F] at hy
  rcases List.mem_append.1 hy with k | k
  · exact absurd k hn
  · exact h3 t ht y k
/-- What came comes again: nothing is turned. -/
theorem again (l ls : List Ent) (h : Srt l) (hi : Ids l) (hd : Ids ls) : (ls.foldl putE ((ls.foldl putE l).take 20)).take 20 = (ls.foldl putE l).take 20 := by
  obtain ⟨F, hF⟩ : ∃ F, F = ls.foldl putE l := ⟨_, rfl⟩
  obtain ⟨f1, f2, _⟩ := foldl_ok ls h hi
  have f3 := foldl_once ls h hi hd
  rw [← hF] at f1 f2 f3 ⊢
  have t1 : Srt (F.take 20) := List.Pairwise.sublist (List.take_sublist _ _) f1
  have t2 : Ids (F.take 20) := List.Pairwise.sublist (List.take_sublist _ _) f2
  have key : ∀ (ms cur : List Ent), (∀ x ∈ ms, x ∈ ls) → Srt cur → Ids cur → (∀ t ∈ F.take 20, t ∈ cur) → (∀ z ∈ cur, z ∈ F.take 20 ∨ 20 < F.length ∧ ∀ t ∈ F.take 20, Ahd t z) →
      Srt (ms.foldl putE cur) ∧ (∀ t ∈ F.take 20, t ∈ ms.foldl putE cur) ∧ ∀ z ∈ ms.foldl putE cur, z ∈ F.take 20 ∨ 20 < F.length ∧ ∀ t ∈ F.take 20, Ahd t z := by
    intro ms
    induction ms with
    | nil => intro cur _ c1 _ c3 c4; exact ⟨c1, c3, c4⟩
    | cons x ms ih =>
      intro cur hm c1 c2 c3 c4
      obtain ⟨a1, a2, a3⟩ := putE_ok c1 c2 x
      refine ih (putE cur x) (fun y hy => hm y (List.mem_cons_of_mem _ hy)) a1 a2 (fun t ht => ?_) (fun z hz => ?_)
      · refine (a3 t).2 ?_
        by_cases e : eI t = eI x
        · rcases f3 x (hm x (by simp)) with k | ⟨y, hy, e1, e2⟩
          · have : t = x := ids_inj f2 (List.mem_of_mem_take ht) k e
            subst this
            exact .inl ⟨rfl, fun z hz ez => by rw [ids_inj c2 hz (c3 t ht) ez]; exact Int.le_refl _⟩
          · have : t = y := ids_inj f2 (List.mem_of_mem_take ht) hy (e.trans e1.symm)
            subst this
            exact .inr ⟨c3 t ht, fun _ => e2⟩
        · exact .inr ⟨c3 t ht, fun e2 => absurd e2 e⟩
      · rcases (a3 z).1 hz with ⟨rfl, hz2⟩ | ⟨hz, _⟩
        · by_cases hin : z ∈ F.take 20
          · exact .inl hin
          · right
            have hex : ∃ y ∈ F, y ∉ F.take 20 ∧ eI y = eI z ∧ eA z ≤ eA y := by
              rcases f3 z (hm z (by simp)) with k | ⟨y, hy, e1, e2⟩
              · exact ⟨z, k, hin, rfl, Int.le_refl _⟩
              · refine ⟨y, hy, fun hc => ?_, e1, by omega⟩
                have := hz2 y (c3 y hc) e1
                omega
            obtain ⟨y, hy, hyn, e1, e2⟩ := hex
            refine ⟨?_, fun t ht => ?_⟩
            · rcases Nat.lt_or_ge 20 F.length with k | k
              · exact k
              · rw [List.take_of_length_le k] at hyn; exact absurd hy hyn
            · have h5 := take_mem_ahd f1 20 ht hy hyn
              rw [Ahd_iff] at h5 ⊢
              rw [← e1]
              rcases h5 with h5 | ⟨h5, h6⟩
              · exact .inl (by omega)
              · by_cases e3 : eA z = eA y
                · exact .inr ⟨by omega, h6⟩
                · exact .inl (by omega)
        · exact c4 z hz
  obtain ⟨k1, k2, k3⟩ := key ls (F.take 20) (fun _ h => h) t1 t2 (fun _ h => h) (fun z hz => .inl hz)
  obtain ⟨G, hG⟩ : ∃ G, G = ls.foldl putE (F.take 20) := ⟨_, rfl⟩
  rw [← hG] at k1 k2 k3 ⊢
  have hGe : G = F.take 20 ++ G.filter fun z => decide (z ∉ F.take 20) := by
    refine srt_ext k1 (List.pairwise_append.2 ⟨t1, List.Pairwise.sublist List.filter_sublist k1, fun t ht z hz => ?_⟩) (fun x => ?_)
    · obtain ⟨z1, z2⟩ := List.mem_filter.1 hz
      rcases k3 z z1 with k | k
      · simp only [decide_eq_true_eq] at z2; exact absurd k z2
      · exact k.2 t ht
    · rw [List.mem_append, List.mem_filter]
      constructor
      · intro hx
        by_cases e : x ∈ F.take 20
        · exact .inl e
        · exact .inr ⟨hx, by simpa using e⟩
      · rintro (hx | hx)
        · exact k2 x hx
        · exact hx.1
  rcases Nat.lt_or_ge 20 F.length with k | k
  · rw [hGe]
    have hl : (F.take 20).length = 20 := by rw [List.length_take]; omega
    rw [List.take_append_of_le_length (by omega), List.take_of_length_le (by omega)]
  · have : (G.filter fun z => decide (z ∉ F.take 20)) = [] := by
      rw [List.filter_eq_nil_iff]
      intro z hz
      rcases k3 z hz with k4 | k4
      · simpa using k4
      · omega
    rw [this, List.append_nil] at hGe
    rw [hGe, List.take_of_length_le (by rw [List.length_take]; omega)]
end Go.Proofs.YthnpljkekhieiaaGreatDoor

namespace Go.Proofs.YthnpljkekhieiaaGreatDoor
open Go.RowKit

/-- A row that has grown lies where it lay, or in a new block. -/
def Grew (w w' : World) (v v' : Value) : Prop :=
  (v'.ownBlock = v.ownBlock ∧ w.grownBy w' v.ownBlock) ∨ (w.grownBy w' none ∧ ∃ k, v'.ownBlock = some k ∧ w.heap.size ≤ k)
theorem run_append_gr {P : Program} (w : World) (base : Nat) (t ty e : TypeId) (i : TypeInfo) (z : Value) (size bytes : Nat) (ht : P.underlying t = some (.slice e)) (hi : P.info? e = some i) (hz : i.zero = some z)
    (hsize : i.size = size) (hby : i.bytes = bytes) (hzs : z.cells.size = size) (hsz : 0 < size)
    (v : Value) (n : Nat) (xs : List Value) (hown : w.ownsRow base e size v n xs)
    (a : Addr) (m c : Nat) (news : List Value) (hl : news.length = m * size) (hnews : ∀ j u, news[j]? = some u → w.cell? (a.add j) = some u) (h1 : ∀ u ∈ news, u.oneCell' = true)
    (hm : 0 < m) (h63 : n + m ≤ maxLen) (hbytes : (n + m) * bytes ≤ 140737488355328) (hbase : base ≤ w.heap.size) :
    ∃ v' w', (Builtin.append_ #[t, t] ty #[v, .slice (some a) m c]).run P w = .ok v' w' ∧ w'.ownsRow base e size v' (n + m) (xs ++ news) ∧ Grew w w' v v' := by
  have up : ∀ {w' : World} {v' : Value} {xs : List Value} {n : Nat}, 0 < n → w'.ownsRow w.heap.size e size v' n xs → w'.ownsRow base e size v' n xs ∧ ∃ k, v'.ownBlock = some k ∧ w.heap.size ≤ k := by
    intro w' v' xs n hn h
    rcases h.2 with ⟨_, h0⟩ | ⟨g, cap, cur, rfl, hg, rest⟩
    · omega
    · exact ⟨⟨h.1, .inr ⟨g, cap, cur, rfl, Nat.le_trans hbase hg, rest⟩⟩, g, rfl, hg⟩
  rcases hown.2 with ⟨rfl, rfl⟩ | ⟨g, cap, cur, rfl, hbg, hg, hnc, hcm, hcs, htake⟩
  · have hx : xs = [] := List.eq_nil_of_length_eq_zero (by simpa using hown.1)
    subst hx
    obtain ⟨v', w', hr, h2, h3, -⟩ := run_append_own (P := P) w w.heap.size t ty e i z size bytes ht hi hz hsize hby hzs hsz (.slice none 0 0) 0 [] (World.ownsRow_nil _ _ _ _) a m c news hl hnews h1 h63 hbytes (Nat.le_refl _)
    obtain ⟨h4, h5⟩ := up (by omega) h2
    exact ⟨v', w', hr, h4, .inr ⟨h3, h5⟩⟩
  · by_cases hroom : n + m ≤ cap
    · obtain ⟨w', hr, h2, h3⟩ := run_append_fits (P := P) w base t ty e i size ht hi hsize g n cap xs hown a m c news hl hnews h1 hroom
      exact ⟨_, w', hr, h2, .inl ⟨rfl, h3⟩⟩
    · obtain ⟨v', w', hr, h2, h3⟩ := run_append_arg_grows (P := P) w t ty e i z size bytes ht hi hz hsize hby hzs hsz ⟨g, 0, none⟩ n cap xs hown.1 (World.ownsRow.cells hown rfl) a m c news hl hnews (by omega) h63 hbytes
      obtain ⟨h4, h5⟩ := up (by omega) h2
      exact ⟨v', w', hr, h4, .inr ⟨h3, h5⟩⟩
theorem wpList_append_gr {P : Program} (w : World) {ops : Array Oper} {rest : List Oper} {o : Oper} {a : Act} {Q : Exit → Act → World → Prop} (hgd : o.guard = none) (s x : Operand) (t : TypeId)
    (ho : o.op = .call { callee := .builtin .append, args := #[s, x], argTypes := #[t, t] })
    (base : Nat) (e : TypeId) (i : TypeInfo) (z : Value) (size bytes : Nat) (ht : P.underlying t = some (.slice e)) (hi : P.info? e = some i) (hz : i.zero = some z)
    (hsize : i.size = size) (hby : i.bytes = bytes) (hzs : z.cells.size = size) (hsz : 0 < size)
    (v : Value) (n : Nat) (xs : List Value) (hs : a.eval s = v) (hown : w.ownsRow base e size v n xs)
    (ad : Addr) (m c : Nat) (news : List Value) (hx : a.eval x = .slice (some ad) m c) (hl : news.length = m * size) (hnews : ∀ j u, news[j]? = some u → w.cell? (ad.add j) = some u) (h1 : ∀ u ∈ news, u.oneCell' = true)
    (hm : 0 < m) (h63 : n + m ≤ maxLen) (hbytes : (n + m) * bytes ≤ 140737488355328) (hbase : base ≤ w.heap.size)
    (h : ∀ v' w', w'.ownsRow base e size v' (n + m) (xs ++ news) → Grew w w' v v' → wpList P ops Q rest (a.put o.dst v') w') : wpList P ops Q (o :: rest) a w := by
  refine wpList_plain hgd fun K hK => ?_
  obtain ⟨v', w', hr, h2, h3⟩ := run_append_gr (P := P) w base t o.type e i z size bytes ht hi hz hsize hby hzs hsz v n xs hown ad m c news hl hnews h1 hm h63 hbytes hbase
  unfold Oper.wp execOp
  simp only [ho, resolve, invoke, builtin, Sem.run_bind, Sem.run_pure, Result.andThen_ok, List.map_toArray, List.map_cons, List.map_nil, hs, hx, hr]
  exact hK _ _ (h v' w' h2 h3)
theorem step_append_gr {P : Program} {ops : Array Oper} {o : Oper} {a : Act} {w : World} {K : Act → World → Prop} {Q : Exit → Act → World → Prop} {E : Prop}
    (hgd : o.guard = none) (s x : Operand) (t : TypeId) (hop : o.op = Op.call { callee := Callee.builtin Builtin.append, args := #[s, x], argTypes := #[t, t] })
    (base : Nat) (e : TypeId) (i : TypeInfo) (z : Value) (size bytes : Nat) (ht : P.underlying t = some (.slice e)) (hi : P.info? e = some i) (hz : i.zero = some z)
    (hsize : i.size = size) (hby : i.bytes = bytes) (hzs : z.cells.size = size) (hsz : 0 < size)
    (v : Value) (n : Nat) (xs : List Value) (hs : a.eval s = v) (hown : w.ownsRow base e size v n xs)
    (ad : Addr) (m c : Nat) (news : List Value) (hx : a.eval x = .slice (some ad) m c) (hl : news.length = m * size) (hnews : ∀ j u, news[j]? = some u → w.cell? (ad.add j) = some u) (h1 : ∀ u ∈ news, u.oneCell' = true)
    (hm : 0 < m) (h63 : n + m ≤ maxLen) (hbytes : (n + m) * bytes ≤ 140737488355328) (hbase : base ≤ w.heap.size)
    (hK : ∀ v' w', w'.ownsRow base e size v' (n + m) (xs ++ news) → Grew w w' v v' → K (a.put o.dst v') w') :
    if Region.wanted o (yielded ops a.tmps) = true then Oper.wp P o a w K Q else E := by
  have hw : Region.wanted o (yielded ops a.tmps) = true := by simp [Region.wanted, hgd]
  rw [if_pos hw]
  obtain ⟨v', w', hrun, h2, h3⟩ := run_append_gr (P := P) w base t o.type e i z size bytes ht hi hz hsize hby hzs hsz v n xs hown ad m c news hl hnews h1 hm h63 hbytes hbase
  unfold Oper.wp
  simp [execOp, hop, resolve, invoke, builtin, hs, hx, hrun, Result.andThen]
  exact hK v' w' h2 h3
end Go.Proofs.YthnpljkekhieiaaGreatDoor

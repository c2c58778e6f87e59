/- Tokens in memory; SameAttrs, SameTokens. -/
import Derived.Test.YtkacjnifhmgeiaaGreatDoorTokH
import Derived.Laws.StructEq
namespace Go.Proofs.YtkacjnifhmgeiaaGreatDoor
open Go.RowKit

/-- A slice's length is no more than its capacity. -/
def CapOk (v : Value) : Prop := ∃ ao n c, v = .slice ao n c ∧ n ≤ c
/-- A slice reads as these tokens. -/
def TkS (w : World) (v : Value) (l : List Tok) : Prop :=
  ∃ ao cap, v = .slice ao l.length cap ∧ ∀ i (h : i < l.length), ∃ g o va, ao = some ⟨g, o, none⟩ ∧ g < w.heap.size ∧ w.cell? ⟨g, o + i * 4, none⟩ = some (.int .i64 l[i].1) ∧ w.cell? ⟨g, o + i * 4 + 1, none⟩ = some (.string ⟨l[i].2.1.toArray⟩) ∧
    w.cell? ⟨g, o + i * 4 + 2, none⟩ = some va ∧ w.cell? ⟨g, o + i * 4 + 3, none⟩ = some (.string ⟨l[i].2.2.2.toArray⟩) ∧ AtS w va l[i].2.2.1 ∧ CapOk va
theorem TkS.of_bl {w w' : World} {v : Value} {l : List Tok} (h : TkS w v l) (hb : Bl w w') : TkS w' v l := by
  obtain ⟨ao, cap, rfl, h⟩ := h
  refine ⟨ao, cap, rfl, fun i hi => ?_⟩
  obtain ⟨g, o, va, h1, h2, h3, h4, h5, h6, h7, h8⟩ := h i hi
  exact ⟨g, o, va, h1, Nat.lt_of_lt_of_le h2 (Below.size hb), (hb.cells.1 g _ h2).trans h3, (hb.cells.1 g _ h2).trans h4, (hb.cells.1 g _ h2).trans h5, (hb.cells.1 g _ h2).trans h6, h7.of_bl hb, h8⟩
theorem list_ne {α : Type} {a b : List α} (k : Nat) (h1 : k < a.length) (h2 : k < b.length) (h : a[k] ≠ b[k]) : a ≠ b := by
  rintro rfl; exact h rfl
theorem list_eq {α : Type} {a b : List α} (hl : a.length = b.length) (h : ∀ j (h1 : j < a.length) (h2 : j < b.length), a[j] = b[j]) : a = b := List.ext_getElem hl h

theorem neq_attr (a b : Atr) (W : World) : (binOp .neq 39 (.agg #[.string ⟨a.1.toArray⟩, .string ⟨a.2.toArray⟩]) (.agg #[.string ⟨b.1.toArray⟩, .string ⟨b.2.toArray⟩])).run Tryz.prog W = .ok (.bool (decide (a ≠ b))) W := by
  have hS : Tryz.prog.underlying 39 = some (.struct (Tryz.prog.fieldsOf 39)) := by kernel_rfl
  have hp : Tryz.prog.stoodInHeld 39 = false := by kernel_rfl
  have hs := Tryz.underlying9
  rw [run_neq_struct, show (10000 : Nat) = 9999 + 1 from rfl, run_equalIn_agg W 9999 39 _ _ hS hp]
  simp only [Program.fieldsOf, Tryz.underlying39]
  go_simp
  obtain ⟨a1, a2⟩ := a
  obtain ⟨b1, b2⟩ := b
  by_cases h1 : a1 = b1 <;> by_cases h2 : a2 = b2 <;> simp [h1, h2]
set_option maxHeartbeats 1000000 in
theorem sameAttrs_c (a b : List Atr) (va vb : Value) (hl : a.length ≤ 1099511627776) (w : World) (hA : AtS w va a) (hB : AtS w vb b) :
    Calls Tryz.prog 29 #[va, vb] w fun e w' => e = .returned (.bool (decide (a = b))) ∧ Qt w w' := by
  obtain ⟨ao, ca, rfl, hA⟩ := hA
  obtain ⟨bo, cb, rfl, hB⟩ := hB
  by_cases hlen : a.length = b.length
  · have hlen' : ((a.length : Int) != (b.length : Int)) = false := by simp [hlen]
    have HL := Lib.hid hlen
    have hl2 : b.length ≤ 1099511627776 := by omega
    go_enter Tryz.func29, Tryz.ntmps29
    clear hlen
    go_wp2
    go_loopw [5] (fun i wr => ∃ k : Nat, k ≤ a.length ∧ i = .int .i64 k ∧ Hid (∀ j (h1 : j < a.length) (h2 : j < b.length), j < k → a[j] = b[j]) ∧ Qt w wr) (fun i _ => a.length - (intOf i).toNat)
    case atStart => exact ⟨0, Nat.zero_le _, rfl, Lib.hid (fun j _ _ h => by omega), Qt.refl _⟩
    case round =>
      obtain ⟨k, hk, rfl, HP, hq⟩ := hrel
      by_cases hlt : k < a.length
      · have hltb : k < b.length := by have := HL.out; omega
        have hltb' : (k : Int) < (b.length : Int) := by omega
        obtain ⟨g, o, rfl, hg, h1, h2⟩ := hA k hlt
        obtain ⟨g', o', rfl, hg', h3, h4⟩ := hB k hltb
        have x1 := (hq.bl.cells.1 g _ hg).trans h1
        have x2 := (hq.bl.cells.1 g _ hg).trans h2
        have x3 := (hq.bl.cells.1 g' _ hg').trans h3
        have x4 := (hq.bl.cells.1 g' _ hg').trans h4
        clear h1 h2 h3 h4 hA hB
        have hnq := fun W => neq_attr a[k] b[k] W
        have hmm : Tryz.prog.eqGuardType Tryz.prog.depth 39 = false := by kernel_rfl
        by_cases he : a[k] = b[k]
        · have hne : decide (a[k] ≠ b[k]) = false := by simp [he]
          have HE := Lib.hid he
          clear he
          go_wp2_with (go_quiet (fail))
          go_roundw
          case rel =>
            refine ⟨k + 1, by omega, by go_num, Lib.hid (fun j h1 h2 hj => ?_), hq.drewN _⟩
            by_cases e : j = k
            · subst e; exact HE.out
            · exact HP.out j h1 h2 (by omega)
          case measure => simp [intOf]; omega
        · have hne : decide (a[k] ≠ b[k]) = true := by simp [he]
          have HE := Lib.hid (list_ne k hlt hltb he)
          clear he
          go_wp2_with (go_quiet (fail))
          go_ret
          exact ⟨ret_bool (by rw [decide_eq_false HE.out]), hq.drewN _⟩
      · have HE := Lib.hid (list_eq HL.out (fun j h1 h2 => HP.out j h1 h2 (by omega)))
        go_wp2
        go_ret
        exact ⟨ret_bool (by rw [HE.out]; simp), hq⟩
  · have hlen' : ((a.length : Int) != (b.length : Int)) = true := by simp; omega
    have HL := Lib.hid hlen
    clear hlen
    go_enter Tryz.func29, Tryz.ntmps29
    go_wp2
    go_ret
    exact ⟨ret_bool (by rw [decide_eq_false (fun h => HL.out (by rw [h]))]), Qt.refl _⟩
end Go.Proofs.YtkacjnifhmgeiaaGreatDoor

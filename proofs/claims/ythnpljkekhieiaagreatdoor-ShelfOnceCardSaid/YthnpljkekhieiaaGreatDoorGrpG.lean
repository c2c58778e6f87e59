/- Tokens: attributes in memory; slices.ContainsFunc on them. · Tokens in memory; SameAttrs, SameTokens. · Tokens: Check of the program. · Tokens: one; Check of the program. · Tokens: Check of the program. -/
import Derived.Test.YthnpljkekhieiaaGreatDoorGrpF
import Derived.Laws.StructEq
import Derived.Test.YthnpljkekhieiaaGreatDoorGrpD
namespace Go.Proofs.YthnpljkekhieiaaGreatDoor
open Go.RowKit

def atV (a : Atr) : Value := .agg #[.string ⟨a.1.toArray⟩, .string ⟨a.2.toArray⟩]
/-- A slice reads as these attributes. -/
def AtS (w : World) (v : Value) (l : List Atr) : Prop :=
  ∃ ao cap, v = .slice ao l.length cap ∧ ∀ i (h : i < l.length), ∃ g o, ao = some ⟨g, o, none⟩ ∧ g < w.heap.size ∧ w.cell? ⟨g, o + i * 2, none⟩ = some (.string ⟨l[i].1.toArray⟩) ∧ w.cell? ⟨g, o + i * 2 + 1, none⟩ = some (.string ⟨l[i].2.toArray⟩)
theorem AtS.of_bl {w w' : World} {v : Value} {l : List Atr} (h : AtS w v l) (hb : Bl w w') : AtS w' v l := by
  obtain ⟨ao, cap, rfl, h⟩ := h
  refine ⟨ao, cap, rfl, fun i hi => ?_⟩
  obtain ⟨g, o, h1, h2, h3, h4⟩ := h i hi
  exact ⟨g, o, h1, Nat.lt_of_lt_of_le h2 (Below.size hb), (hb.cells.1 g _ h2).trans h3, (hb.cells.1 g _ h2).trans h4⟩
/-- A closure that tells of an attribute. -/
structure DoA (N : Nat) (cap : Array Value) (p : Atr → Bool) (I : World → Prop) : Prop where
  cf : ∀ (args : Array Value) (W : World), Sem.run Tryz.prog (callFunc N args) W = .ok (.enter N args) W
  go : ∀ (a : Atr) W, I W → Calls Tryz.prog N (#[atV a] ++ cap) W fun e w' => e = .returned (.bool (p a)) ∧ Bl W w'
  bl : ∀ W W', I W → Bl W W' → I W'
def ixA (p : Atr → Bool) (l : List Atr) : Int := match l.findIdx? p with | some i => i | none => -1
theorem ixA_hit (p : Atr → Bool) (l : List Atr) (k : Nat) (h : k < l.length) (hk : p l[k] = true) (hb : ∀ j (hj : j < l.length), j < k → p l[j] = false) : ixA p l = k := by
  unfold ixA
  rw [List.findIdx?_eq_some_iff_getElem.2 ⟨h, hk, fun j hj => by simpa using hb j (by omega) hj⟩]
theorem ixA_miss (p : Atr → Bool) (l : List Atr) (hb : ∀ j (hj : j < l.length), p l[j] = false) : ixA p l = -1 := by
  unfold ixA
  rw [List.findIdx?_eq_none_iff.2 (fun x hx => by obtain ⟨j, hj, rfl⟩ := List.mem_iff_getElem.1 hx; exact hb j hj)]
theorem ixA_any (p : Atr → Bool) (l : List Atr) : decide (0 ≤ ixA p l) = l.any p := by
  unfold ixA
  cases h : l.findIdx? p with
  | some i =>
    obtain ⟨h1, h2, _⟩ := List.findIdx?_eq_some_iff_getElem.1 h
    have h3 : l.any p = true := List.any_eq_true.2 ⟨l[i], List.getElem_mem _, h2⟩
    rw [h3]; simp
  | none =>
    have h3 : l.any p = false := by
      rw [List.any_eq_false]; intro x hx; simpa using List.findIdx?_eq_none_iff.1 h x hx
    rw [h3]; simp
set_option maxHeartbeats 1000000 in
theorem indexF_c (N : Nat) (cap : Array Value) (p : Atr → Bool) (I : World → Prop) (hD : DoA N cap p I) (l : List Atr) (v : Value) (hl : l.length ≤ 1099511627776) (w : World) (hI : I w) (hA : AtS w v l) :
    Calls Tryz.prog 130 #[v, .func (.func N) #[] cap] w fun e w' => e = .returned (.int .i64 (ixA p l)) ∧ Bl w w' := by
  obtain ⟨ao, vc, rfl, hA⟩ := hA
  have hcf := hD.cf
  have HD := Lib.hid hD
  clear hD
  go_enter Tryz.func130, Tryz.ntmps130
  go_wp2
  go_loopw [8] (fun i wr => ∃ k : Nat, k ≤ l.length ∧ i = .int .i64 k ∧ Hid (∀ j (hj : j < l.length), j < k → p l[j] = false) ∧ Bl w wr) (fun i _ => l.length - (intOf i).toNat)
  case atStart => exact ⟨0, Nat.zero_le _, rfl, Lib.hid (fun j _ h => by omega), Bl.refl _⟩
  case round =>
    obtain ⟨k, hk, rfl, HP, hbl⟩ := hrel
    by_cases hlt : k < l.length
    · obtain ⟨g, o, rfl, hg, h1, h2⟩ := hA k hlt
      have h1' := (hbl.cells.1 g _ hg).trans h1
      have h2' := (hbl.cells.1 g _ hg).trans h2
      have hI' := HD.out.bl _ _ hI hbl
      have HG := Lib.hid (HD.out.go l[k] wr hI')
      unfold atV at HG
      cases hp : p l[k]
      · have HF := Lib.hid hp
        rw [hp] at HG
        clear hp h1 h2 hA
        go_wp2_with (with_reducible refine HG.out.mono ?_; rintro e w' ⟨rfl, hb'⟩)
        go_roundw
        case rel =>
          refine ⟨k + 1, by omega, by go_num, Lib.hid (fun j hj hjk => ?_), hbl.trans hb'⟩
          by_cases e : j = k
          · subst e; exact HF.out
          · exact HP.out j hj (by omega)
        case measure => simp [intOf]; omega
      · have HF := Lib.hid hp
        rw [hp] at HG
        clear hp h1 h2 hA
        go_wp2_with (with_reducible refine HG.out.mono ?_; rintro e w' ⟨rfl, hb'⟩)
        go_ret
        exact ⟨ret_int (ixA_hit p l k hlt HF.out HP.out).symm, hbl.trans hb'⟩
    · go_wp2
      go_ret
      exact ⟨ret_int (ixA_miss p l (fun j hj => HP.out j hj (by omega))).symm, hbl⟩
theorem containsF_c (N : Nat) (cap : Array Value) (p : Atr → Bool) (I : World → Prop) (hD : DoA N cap p I) (l : List Atr) (v : Value) (hl : l.length ≤ 1099511627776) (w : World) (hI : I w) (hA : AtS w v l) :
    Calls Tryz.prog 94 #[v, .func (.func N) #[] cap] w fun e w' => e = .returned (.bool (l.any p)) ∧ Bl w w' := by
  have HI := Lib.hid (indexF_c N cap p I hD l v hl w hI hA)
  have HX := Lib.hid (ixA_any p l)
  obtain ⟨ao, vc, rfl, -⟩ := hA
  go_enter Tryz.func94, Tryz.ntmps94
  go_wp2_with (go_at_call 130; (with_reducible refine HI.out.mono ?_); rintro e w' ⟨rfl, hb'⟩)
  go_ret
  exact ⟨ret_bool HX.out, hb'⟩
/-- Is an attribute's name that text? -/
def isN (n : List UInt8) (a : Atr) : Bool := a.1 == n
theorem cf_same : ∀ (args : Array Value) (W : World), Sem.run Tryz.prog (callFunc 181 args) W = .ok (.enter 181 args) W := by
  intro args W
  simp [callFunc, go_sem, Tryz.func181, Tryz.f181]
theorem clo_same (a : Atr) (n : List UInt8) (q : Nat) (w : World) (hlt : q < w.heap.size) (hq : w.cell? ⟨q, 0, none⟩ = some (.string ⟨n.toArray⟩)) :
    Calls Tryz.prog 181 #[atV a, .pointer (some ⟨q, 0, none⟩)] w fun e w' => e = .returned (.bool (isN n a)) ∧ Bl w w' := by
  unfold atV
  go_enter Tryz.func181, Tryz.ntmps181
  go_wp2
  go_ret
  exact ⟨ret_bool (by simp [isN]), (Bl.refl _).alloc _⟩
def InN (n : List UInt8) (q : Nat) (W : World) : Prop := q < W.heap.size ∧ W.cell? ⟨q, 0, none⟩ = some (.string ⟨n.toArray⟩)
theorem InN.bl {n : List UInt8} {q : Nat} (W W' : World) (h : InN n q W) (hb : Bl W W') : InN n q W' := ⟨Nat.lt_of_lt_of_le h.1 (Below.size hb), (hb.cells.1 q 0 h.1).trans h.2⟩
theorem do_same (n : List UInt8) (q : Nat) : DoA 181 #[.pointer (some ⟨q, 0, none⟩)] (isN n) (InN n q) :=
  ⟨cf_same, fun a W h => clo_same a n q W h.1 h.2, InN.bl⟩
end Go.Proofs.YthnpljkekhieiaaGreatDoor

namespace Go.Proofs.YthnpljkekhieiaaGreatDoor
open Go.RowKit

/-- A slice's length is no more than its capacity. -/
def CapOk (v : Value) : Prop := ∃ ao n c, v = .slice ao n c ∧ n ≤ c
/-- A slice reads as these tokens. -/
def TkS (w : World) (v : Value) (l : List Tok) : Prop :=
  ∃ ao cap, v = .slice ao l.length cap ∧ ∀ i (h : i < l.length), ∃ g o va, ao = some ⟨g, o, none⟩ ∧ g < w.heap.size ∧ w.cell? ⟨g, o + i * 4, none⟩ = some (.int .i64 l[i].1) ∧ w.cell? ⟨g, o + i * 4 + 1, none⟩ = some (.string ⟨l[i].2.1.toArray⟩) ∧
    w.cell? ⟨g, o + i * 4 + 2, none⟩ = some va ∧ w.cell? ⟨g, o + i * 4 + 3, none⟩ = some (.string ⟨l[i].2.2.2.toArray⟩) ∧ AtS w va l[i].2.2.1 ∧ CapOk va
theorem TkS.of_bl {w w' : World} {v : Value} {l : List Tok} (h : TkS w v l) (hb : Bl w w') : TkS w' v l := by
  obtain ⟨ao, cap, rfl, h⟩ := h
  refine ⟨ao, cap, rfl, fun i hi => ?_⟩
  obtain ⟨g, o, va, h1, h2, h3, h4, h5, h6, h7, h8⟩ := h i hi
  exact ⟨g, o, va, h1, Nat.lt_of_lt_of_le h2 (Below.size hb), (hb.cells.1 g _ h2).trans h3, (hb.cells.1 g _ h2).trans h4, (hb.cells.1 g _ h2).trans h5, (hb.cells.1 g _ h2).trans h6, h7.of_bl hb, h8⟩
theorem list_ne {α : Type} {a b : List α} (k : Nat) (h1 : k < a.length) (h2 : k < b.length) (h : a[k] ≠ b[k]) : a ≠ b := by
  rintro rfl; exact h rfl
theorem list_eq {α : Type} {a b : List α} (hl : a.length = b.length) (h : ∀ j (h1 : j < a.length) (h2 : j < b.length), a[j] = b[j]) : a = b := List.ext_getElem hl h

end Go.Proofs.YthnpljkekhieiaaGreatDoor

namespace Go.Proofs.YthnpljkekhieiaaGreatDoor
open Go.RowKit

theorem AtS.take {w : World} {g o c : Nat} {l : List Atr} (h : ∀ i (h : i < l.length), w.cell? ⟨g, o + i * 2, none⟩ = some (.string ⟨l[i].1.toArray⟩) ∧ w.cell? ⟨g, o + i * 2 + 1, none⟩ = some (.string ⟨l[i].2.toArray⟩)) (hg : g < w.heap.size) (k : Nat) (hk : k ≤ l.length) : AtS w (.slice (some ⟨g, o, none⟩) k c) (l.take k) := by
  have hl : (l.take k).length = k := by simp; omega
  refine ⟨some ⟨g, o, none⟩, c, by rw [hl], fun i hi => ?_⟩
  rw [hl] at hi
  have hi' : i < l.length := by omega
  refine ⟨g, o, rfl, hg, ?_, ?_⟩
  · have := (h i hi').1; simpa using this
  · have := (h i hi').2; simpa using this
end Go.Proofs.YthnpljkekhieiaaGreatDoor

namespace Go.Proofs.YthnpljkekhieiaaGreatDoor
open Go.RowKit

end Go.Proofs.YthnpljkekhieiaaGreatDoor

namespace Go.Proofs.YthnpljkekhieiaaGreatDoor
open Go.RowKit

end Go.Proofs.YthnpljkekhieiaaGreatDoor

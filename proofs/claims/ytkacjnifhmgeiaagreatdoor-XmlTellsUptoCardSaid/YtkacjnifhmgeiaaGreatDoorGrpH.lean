/- Tokens: small letters: Folded of the program, FoldOf of the reference. · Tokens: a value behind a =. · Tokens: attributes in memory; slices.ContainsFunc on them. · Tokens in memory; SameAttrs, SameTokens. -/
import Derived.Test.YtkacjnifhmgeiaaGreatDoorGrpG
import Derived.Laws.StructEq
namespace Go.Proofs.YtkacjnifhmgeiaaGreatDoor
open Go.RowKit

theorem fld_nat (c : UInt8) : (fld c).toNat = if 65 ≤ c.toNat ∧ c.toNat ≤ 90 then c.toNat + 32 else c.toNat := by
  unfold fld
  split
  · rename_i h
    rw [UInt8.toNat_add]
    simp only [show (32 : UInt8).toNat = 32 from rfl]
    omega
  · rfl
theorem fold_len (l : List UInt8) : (fold l).length = l.length := by simp [fold]
theorem conv_cap (W : World) (g cap : Nat) (l : List UInt8) (h : BA W g l) : (convert 76 9 (.slice (some ⟨g, 0, none⟩) l.length cap)).run Tryz.prog W = .ok (.string ⟨l.toArray⟩) W := by
  have h1 := run_convert_bytes_arg (P := Tryz.prog) W 76 5 Tryz.underlying76 Tryz.underlying5 g 0 l.length cap (l.map fun c => (c.toNat : Int)) (by simp) (fun i hi => by
    rw [Nat.zero_add, h i hi]
    simp [List.getD, hi]) 9 Tryz.underlying9
  have e : (l.map fun c => (c.toNat : Int)).map (fun n => UInt8.ofNat n.toNat) = l := by
    rw [List.map_map]
    exact (List.map_congr_left (fun c _ => by simp)).trans (List.map_id l)
  rw [h1, strOfNums, e]
/-- The first k bytes are small, the others as they were. -/
def FA (w : World) (g : Nat) (l : List UInt8) (k : Nat) : Prop := ∀ i, (h : i < l.length) → w.cell? ⟨g, i, none⟩ = some (.int .u8 ((if i < k then fld l[i] else l[i]).toNat : Int)) ∧ w.frozen? ⟨g, i, none⟩ = false
theorem FA.skip {w : World} {g k : Nat} {l : List UInt8} (h : FA w g l k) (hk : k < l.length) (hs : fld l[k] = l[k]) : FA w g l (k + 1) := by
  intro i hi
  refine ⟨?_, (h i hi).2⟩
  rw [(h i hi).1]
  by_cases e : i = k
  · subst e; simp [hs]
  · have : (i < k + 1) = (i < k) := by simp; omega
    simp only [this]
theorem FA.set {w : World} {g k : Nat} {l : List UInt8} (h : FA w g l k) (hk : k < l.length) {n : Int} (hn : n = ((fld l[k]).toNat : Int)) : FA (w.setCell ⟨g, k, none⟩ (.int .u8 n)) g l (k + 1) := by
  intro i hi
  by_cases e : i = k
  · subst e
    refine ⟨?_, by rw [World.frozen?_setCell]; exact (h i hi).2⟩
    rw [hn, World.cell?_setCell_same w _ _ (by rw [(h i hi).1])]
    simp
  · refine ⟨?_, by rw [World.frozen?_setCell]; exact (h i hi).2⟩
    rw [World.cell?_setCell_other w _ _ _ (by simp []), (h i hi).1]
    have : (i < k + 1) = (i < k) := by simp; omega
    simp only [this]

theorem FA_brow (w : World) (l : List UInt8) (cap : Nat) (t : TypeId) : FA (w.alloc (brow l cap t)) w.heap.size l 0 := by
  intro i hi
  refine ⟨by rw [BA_brow w l cap t i hi]; simp, ?_⟩
  unfold brow; rw [World.frozen?_alloc_mark]; simp [bytesRow]; omega
def bcs (l : List UInt8) : List Value := l.map fun c => .int .u8 (c.toNat : Int)
theorem bcs_len (l : List UInt8) : (bcs l).length = l.length := by simp [bcs]
/-- What was laid in a new block stands there. -/
theorem new_cells (w : World) (c : Array Value) (e : TypeId) : ∀ j u, c.toList[j]? = some u → (w.alloc (.cells c e)).cell? ((⟨w.heap.size, 0, none⟩ : Addr).add j) = some u := by
  intro j u h
  have hadd : (⟨w.heap.size, 0, none⟩ : Addr).add j = ⟨w.heap.size, j, none⟩ := by unfold Addr.add; split <;> simp_all
  rw [hadd]
  simpa using h
theorem conv_own (W : World) (base : Nat) (v : Value) (l : List UInt8) (h : W.ownsRow base 5 1 v l.length (bcs l)) : (convert 76 9 v).run Tryz.prog W = .ok (.string ⟨l.toArray⟩) W := by
  rcases h.2 with ⟨rfl, h0⟩ | ⟨g, cap, cur, rfl, -, -, -⟩
  · obtain rfl := List.eq_nil_of_length_eq_zero h0
    have := run_convert_bytes_nil (P := Tryz.prog) W 76 5 Tryz.underlying76 Tryz.underlying5 0 0
    exact this _ Tryz.underlying9
  · refine conv_cap W g cap l (fun i hi => ?_)
    have := h.cells (g := g) rfl i (.int .u8 (l[i].toNat : Int)) (by simp [bcs, hi])
    by_cases e : i = 0
    · subst e; simpa [Addr.add] using this
    · simpa [Addr.add, e] using this
theorem Tryz.infoU8 : (Tryz.prog.info? 5).map (fun i => (i.zero, i.size, i.bytes)) = some (some (.int .u8 0), 1, 1) := by kernel_rfl
end Go.Proofs.YtkacjnifhmgeiaaGreatDoor

namespace Go.Proofs.YtkacjnifhmgeiaaGreatDoor
open Go.RowKit

theorem hd_isq (q : UInt8) (r : List UInt8) : (hd isq (q :: r) = true) ↔ (q = 34 ∨ q = 39) := by
  have h1 : q.toNat = 34 ↔ q = 34 := ⟨fun h => UInt8.toNat_inj.1 h, fun h => by rw [h]; rfl⟩
  have h2 : q.toNat = 39 ↔ q = 39 := ⟨fun h => UInt8.toNat_inj.1 h, fun h => by rw [h]; rfl⟩
  simp [hd, isq, h1, h2]
theorem alloc_gb (w : World) (o : Obj) (b : Option Nat) : w.grownBy (w.alloc o) b := World.grownBy_alloc w o b

end Go.Proofs.YtkacjnifhmgeiaaGreatDoor

namespace Go.Proofs.YtkacjnifhmgeiaaGreatDoor
open Go.RowKit

def atV (a : Atr) : Value := .agg #[.string ⟨a.1.toArray⟩, .string ⟨a.2.toArray⟩]
/-- A slice reads as these attributes. -/
def AtS (w : World) (v : Value) (l : List Atr) : Prop :=
  ∃ ao cap, v = .slice ao l.length cap ∧ ∀ i (h : i < l.length), ∃ g o, ao = some ⟨g, o, none⟩ ∧ g < w.heap.size ∧ w.cell? ⟨g, o + i * 2, none⟩ = some (.string ⟨l[i].1.toArray⟩) ∧ w.cell? ⟨g, o + i * 2 + 1, none⟩ = some (.string ⟨l[i].2.toArray⟩)
theorem AtS.of_bl {w w' : World} {v : Value} {l : List Atr} (h : AtS w v l) (hb : Bl w w') : AtS w' v l := by
  obtain ⟨ao, cap, rfl, h⟩ := h
  refine ⟨ao, cap, rfl, fun i hi => ?_⟩
  obtain ⟨g, o, h1, h2, h3, h4⟩ := h i hi
  exact ⟨g, o, h1, Nat.lt_of_lt_of_le h2 (Below.size hb), (hb.cells.1 g _ h2).trans h3, (hb.cells.1 g _ h2).trans h4⟩
/-- A closure that tells of an attribute. -/
structure DoA (N : Nat) (cap : Array Value) (p : Atr → Bool) (I : World → Prop) : Prop where
  cf : ∀ (args : Array Value) (W : World), Sem.run Tryz.prog (callFunc N args) W = .ok (.enter N args) W
  go : ∀ (a : Atr) W, I W → Calls Tryz.prog N (#[atV a] ++ cap) W fun e w' => e = .returned (.bool (p a)) ∧ Bl W w'
  bl : ∀ W W', I W → Bl W W' → I W'
def ixA (p : Atr → Bool) (l : List Atr) : Int := match l.findIdx? p with | some i => i | none => -1
theorem ixA_hit (p : Atr → Bool) (l : List Atr) (k : Nat) (h : k < l.length) (hk : p l[k] = true) (hb : ∀ j (hj : j < l.length), j < k → p l[j] = false) : ixA p l = k := by
  unfold ixA
  rw [List.findIdx?_eq_some_iff_getElem.2 ⟨h, hk, fun j hj => by simpa using hb j (by omega) hj⟩]
theorem ixA_miss (p : Atr → Bool) (l : List Atr) (hb : ∀ j (hj : j < l.length), p l[j] = false) : ixA p l = -1 := by
  unfold ixA
  rw [List.findIdx?_eq_none_iff.2 (fun x hx => by obtain ⟨j, hj, rfl⟩ := List.mem_iff_getElem.1 hx; exact hb j hj)]
theorem ixA_any (p : Atr → Bool) (l : List Atr) : decide (0 ≤ ixA p l) = l.any p := by
  unfold ixA
  cases h : l.findIdx? p with
  | some i =>
    obtain ⟨h1, h2, _⟩ := List.findIdx?_eq_some_iff_getElem.1 h
    have h3 : l.any p = true := List.any_eq_true.2 ⟨l[i], List.getElem_mem _, h2⟩
    rw [h3]; simp
  | none =>
    have h3 : l.any p = false := by
      rw [List.any_eq_false]; intro x hx; simpa using List.findIdx?_eq_none_iff.1 h x hx
    rw [h3]; simp
set_option maxHeartbeats 1000000 in
theorem indexF_c (N : Nat) (cap : Array Value) (p : Atr → Bool) (I : World → Prop) (hD : DoA N cap p I) (l : List Atr) (v : Value) (hl : l.length ≤ 1099511627776) (w : World) (hI : I w) (hA : AtS w v l) :
    Calls Tryz.prog 86 #[v, .func (.func N) #[] cap] w fun e w' => e = .returned (.int .i64 (ixA p l)) ∧ Bl w w' := by
  obtain ⟨ao, vc, rfl, hA⟩ := hA
  have hcf := hD.cf
  have HD := Lib.hid hD
  clear hD
  go_enter Tryz.func86, Tryz.ntmps86
  go_wp2
  go_loopw [8] (fun i wr => ∃ k : Nat, k ≤ l.length ∧ i = .int .i64 k ∧ Hid (∀ j (hj : j < l.length), j < k → p l[j] = false) ∧ Bl w wr) (fun i _ => l.length - (intOf i).toNat)
  case atStart => exact ⟨0, Nat.zero_le _, rfl, Lib.hid (fun j _ h => by omega), Bl.refl _⟩
  case round =>
    obtain ⟨k, hk, rfl, HP, hbl⟩ := hrel
    by_cases hlt : k < l.length
    · obtain ⟨g, o, rfl, hg, h1, h2⟩ := hA k hlt
      have h1' := (hbl.cells.1 g _ hg).trans h1
      have h2' := (hbl.cells.1 g _ hg).trans h2
      have hI' := HD.out.bl _ _ hI hbl
      have HG := Lib.hid (HD.out.go l[k] wr hI')
      unfold atV at HG
      cases hp : p l[k]
      · have HF := Lib.hid hp
        rw [hp] at HG
        clear hp h1 h2 hA
        go_wp2_with (with_reducible refine HG.out.mono ?_; rintro e w' ⟨rfl, hb'⟩)
        go_roundw
        case rel =>
          refine ⟨k + 1, by omega, by go_num, Lib.hid (fun j hj hjk => ?_), hbl.trans hb'⟩
          by_cases e : j = k
          · subst e; exact HF.out
          · exact HP.out j hj (by omega)
        case measure => simp [intOf]; omega
      · have HF := Lib.hid hp
        rw [hp] at HG
        clear hp h1 h2 hA
        go_wp2_with (with_reducible refine HG.out.mono ?_; rintro e w' ⟨rfl, hb'⟩)
        go_ret
        exact ⟨ret_int (ixA_hit p l k hlt HF.out HP.out).symm, hbl.trans hb'⟩
    · go_wp2
      go_ret
      exact ⟨ret_int (ixA_miss p l (fun j hj => HP.out j hj (by omega))).symm, hbl⟩
theorem containsF_c (N : Nat) (cap : Array Value) (p : Atr → Bool) (I : World → Prop) (hD : DoA N cap p I) (l : List Atr) (v : Value) (hl : l.length ≤ 1099511627776) (w : World) (hI : I w) (hA : AtS w v l) :
    Calls Tryz.prog 70 #[v, .func (.func N) #[] cap] w fun e w' => e = .returned (.bool (l.any p)) ∧ Bl w w' := by
  have HI := Lib.hid (indexF_c N cap p I hD l v hl w hI hA)
  have HX := Lib.hid (ixA_any p l)
  obtain ⟨ao, vc, rfl, -⟩ := hA
  go_enter Tryz.func70, Tryz.ntmps70
  go_wp2_with (go_at_call 86; (with_reducible refine HI.out.mono ?_); rintro e w' ⟨rfl, hb'⟩)
  go_ret
  exact ⟨ret_bool HX.out, hb'⟩
/-- Is an attribute's name that text? -/
def isN (n : List UInt8) (a : Atr) : Bool := a.1 == n
theorem cf_same2 : ∀ (args : Array Value) (W : World), Sem.run Tryz.prog (callFunc 71 args) W = .ok (.enter 71 args) W := by
  intro args W
  simp [callFunc, go_sem, Tryz.func71, Tryz.f71]
theorem clo_same2 (a : Atr) (n : List UInt8) (q : Nat) (w : World) (hlt : q < w.heap.size) (hq : w.cell? ⟨q, 0, none⟩ = some (.string ⟨n.toArray⟩)) :
    Calls Tryz.prog 71 #[atV a, .pointer (some ⟨q, 0, none⟩)] w fun e w' => e = .returned (.bool (isN n a)) ∧ Bl w w' := by
  unfold atV
  go_enter Tryz.func71, Tryz.ntmps71
  go_wp2
  go_ret
  exact ⟨ret_bool (by simp [isN]), (Bl.refl _).alloc _⟩
def InN (n : List UInt8) (q : Nat) (W : World) : Prop := q < W.heap.size ∧ W.cell? ⟨q, 0, none⟩ = some (.string ⟨n.toArray⟩)
theorem InN.bl {n : List UInt8} {q : Nat} (W W' : World) (h : InN n q W) (hb : Bl W W') : InN n q W' := ⟨Nat.lt_of_lt_of_le h.1 (Below.size hb), (hb.cells.1 q 0 h.1).trans h.2⟩
theorem do_same2 (n : List UInt8) (q : Nat) : DoA 71 #[.pointer (some ⟨q, 0, none⟩)] (isN n) (InN n q) :=
  ⟨cf_same2, fun a W h => clo_same2 a n q W h.1 h.2, InN.bl⟩
end Go.Proofs.YtkacjnifhmgeiaaGreatDoor

namespace Go.Proofs.YtkacjnifhmgeiaaGreatDoor
open Go.RowKit

/-- A slice's length is no more than its capacity. -/
def CapOk (v : Value) : Prop := ∃ ao n c, v = .slice ao n c ∧ n ≤ c
/-- A slice reads as these tokens. -/
def TkS (w : World) (v : Value) (l : List Tok) : Prop :=
  ∃ ao cap, v = .slice ao l.length cap ∧ ∀ i (h : i < l.length), ∃ g o va, ao = some ⟨g, o, none⟩ ∧ g < w.heap.size ∧ w.cell? ⟨g, o + i * 4, none⟩ = some (.int .i64 l[i].1) ∧ w.cell? ⟨g, o + i * 4 + 1, none⟩ = some (.string ⟨l[i].2.1.toArray⟩) ∧
    w.cell? ⟨g, o + i * 4 + 2, none⟩ = some va ∧ w.cell? ⟨g, o + i * 4 + 3, none⟩ = some (.string ⟨l[i].2.2.2.toArray⟩) ∧ AtS w va l[i].2.2.1 ∧ CapOk va
theorem TkS.of_bl {w w' : World} {v : Value} {l : List Tok} (h : TkS w v l) (hb : Bl w w') : TkS w' v l := by
  obtain ⟨ao, cap, rfl, h⟩ := h
  refine ⟨ao, cap, rfl, fun i hi => ?_⟩
  obtain ⟨g, o, va, h1, h2, h3, h4, h5, h6, h7, h8⟩ := h i hi
  exact ⟨g, o, va, h1, Nat.lt_of_lt_of_le h2 (Below.size hb), (hb.cells.1 g _ h2).trans h3, (hb.cells.1 g _ h2).trans h4, (hb.cells.1 g _ h2).trans h5, (hb.cells.1 g _ h2).trans h6, h7.of_bl hb, h8⟩
theorem list_ne {α : Type} {a b : List α} (k : Nat) (h1 : k < a.length) (h2 : k < b.length) (h : a[k] ≠ b[k]) : a ≠ b := by
  rintro rfl; exact h rfl
theorem list_eq {α : Type} {a b : List α} (hl : a.length = b.length) (h : ∀ j (h1 : j < a.length) (h2 : j < b.length), a[j] = b[j]) : a = b := List.ext_getElem hl h

theorem neq_attr (a b : Atr) (W : World) : (binOp .neq 39 (.agg #[.string ⟨a.1.toArray⟩, .string ⟨a.2.toArray⟩]) (.agg #[.string ⟨b.1.toArray⟩, .string ⟨b.2.toArray⟩])).run Tryz.prog W = .ok (.bool (decide (a ≠ b))) W := by
  have hS : Tryz.prog.underlying 39 = some (.struct (Tryz.prog.fieldsOf 39)) := by kernel_rfl
  have hp : Tryz.prog.stoodInHeld 39 = false := by kernel_rfl
  have hs := Tryz.underlying9
  rw [run_neq_struct, show (10000 : Nat) = 9999 + 1 from rfl, run_equalIn_agg W 9999 39 _ _ hS hp]
  simp only [Program.fieldsOf, Tryz.underlying39]
  go_simp
  obtain ⟨a1, a2⟩ := a
  obtain ⟨b1, b2⟩ := b
  by_cases h1 : a1 = b1 <;> by_cases h2 : a2 = b2 <;> simp [h1, h2]
set_option maxHeartbeats 1000000 in
theorem sameAttrs_c (a b : List Atr) (va vb : Value) (hl : a.length ≤ 1099511627776) (w : World) (hA : AtS w va a) (hB : AtS w vb b) :
    Calls Tryz.prog 29 #[va, vb] w fun e w' => e = .returned (.bool (decide (a = b))) ∧ Qt w w' := by
  obtain ⟨ao, ca, rfl, hA⟩ := hA
  obtain ⟨bo, cb, rfl, hB⟩ := hB
  by_cases hlen : a.length = b.length
  · have hlen' : ((a.length : Int) != (b.length : Int)) = false := by simp [hlen]
    have HL := Lib.hid hlen
    have hl2 : b.length ≤ 1099511627776 := by omega
    go_enter Tryz.func29, Tryz.ntmps29
    clear hlen
    go_wp2
    go_loopw [5] (fun i wr => ∃ k : Nat, k ≤ a.length ∧ i = .int .i64 k ∧ Hid (∀ j (h1 : j < a.length) (h2 : j < b.length), j < k → a[j] = b[j]) ∧ Qt w wr) (fun i _ => a.length - (intOf i).toNat)
    case atStart => exact ⟨0, Nat.zero_le _, rfl, Lib.hid (fun j _ _ h => by omega), Qt.refl _⟩
    case round =>
      obtain ⟨k, hk, rfl, HP, hq⟩ := hrel
      by_cases hlt : k < a.length
      · have hltb : k < b.length := by have := HL.out; omega
        have hltb' : (k : Int) < (b.length : Int) := by omega
        obtain ⟨g, o, rfl, hg, h1, h2⟩ := hA k hlt
        obtain ⟨g', o', rfl, hg', h3, h4⟩ := hB k hltb
        have x1 := (hq.bl.cells.1 g _ hg).trans h1
        have x2 := (hq.bl.cells.1 g _ hg).trans h2
        have x3 := (hq.bl.cells.1 g' _ hg').trans h3
        have x4 := (hq.bl.cells.1 g' _ hg').trans h4
        clear h1 h2 h3 h4 hA hB
        have hnq := fun W => neq_attr a[k] b[k] W
        have hmm : Tryz.prog.eqGuardType Tryz.prog.depth 39 = false := by kernel_rfl
        by_cases he : a[k] = b[k]
        · have hne : decide (a[k] ≠ b[k]) = false := by simp [he]
          have HE := Lib.hid he
          clear he
          go_wp2_with (go_quiet (fail))
          go_roundw
          case rel =>
            refine ⟨k + 1, by omega, by go_num, Lib.hid (fun j h1 h2 hj => ?_), hq.drewN _⟩
            by_cases e : j = k
            · subst e; exact HE.out
            · exact HP.out j h1 h2 (by omega)
          case measure => simp [intOf]; omega
        · have hne : decide (a[k] ≠ b[k]) = true := by simp [he]
          have HE := Lib.hid (list_ne k hlt hltb he)
          clear he
          go_wp2_with (go_quiet (fail))
          go_ret
          exact ⟨ret_bool (by rw [decide_eq_false HE.out]), hq.drewN _⟩
      · have HE := Lib.hid (list_eq HL.out (fun j h1 h2 => HP.out j h1 h2 (by omega)))
        go_wp2
        go_ret
        exact ⟨ret_bool (by rw [HE.out]; simp), hq⟩
  · have hlen' : ((a.length : Int) != (b.length : Int)) = true := by simp; omega
    have HL := Lib.hid hlen
    clear hlen
    go_enter Tryz.func29, Tryz.ntmps29
    go_wp2
    go_ret
    exact ⟨ret_bool (by rw [decide_eq_false (fun h => HL.out (by rw [h]))]), Qt.refl _⟩
end Go.Proofs.YtkacjnifhmgeiaaGreatDoor

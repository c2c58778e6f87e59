/- Tokens in memory; SameAttrs, SameTokens. · Trees in memory: what is read; the call's own. · Trees: plain laws: what is built is right; built of its own tokens it is the same; walls; texts. · Trees: Size of the program; count of the reference. -/
import Derived.Test.YtjclpmpphkmpdaaGreatDoorGrpG
import Derived.Laws.StructEq
import Derived.Test.YtjclpmpphkmpdaaGreatDoorGrpE
namespace Go.Proofs.YtjclpmpphkmpdaaGreatDoor
open Go.RowKit

/-- A slice's length is no more than its capacity. -/
def CapOk (v : Value) : Prop := ∃ ao n c, v = .slice ao n c ∧ n ≤ c
/-- A slice reads as these tokens. -/
def TkS (w : World) (v : Value) (l : List Tok) : Prop :=
  ∃ ao cap, v = .slice ao l.length cap ∧ ∀ i (h : i < l.length), ∃ g o va, ao = some ⟨g, o, none⟩ ∧ g < w.heap.size ∧ w.cell? ⟨g, o + i * 4, none⟩ = some (.int .i64 l[i].1) ∧ w.cell? ⟨g, o + i * 4 + 1, none⟩ = some (.string ⟨l[i].2.1.toArray⟩) ∧
    w.cell? ⟨g, o + i * 4 + 2, none⟩ = some va ∧ w.cell? ⟨g, o + i * 4 + 3, none⟩ = some (.string ⟨l[i].2.2.2.toArray⟩) ∧ AtS w va l[i].2.2.1 ∧ CapOk va
theorem TkS.of_bl {w w' : World} {v : Value} {l : List Tok} (h : TkS w v l) (hb : Bl w w') : TkS w' v l := by
  obtain ⟨ao, cap, rfl, h⟩ := h
  refine ⟨ao, cap, rfl, fun i hi => ?_⟩
  obtain ⟨g, o, va, h1, h2, h3, h4, h5, h6, h7, h8⟩ := h i hi
  exact ⟨g, o, va, h1, Nat.lt_of_lt_of_le h2 (Below.size hb), (hb.cells.1 g _ h2).trans h3, (hb.cells.1 g _ h2).trans h4, (hb.cells.1 g _ h2).trans h5, (hb.cells.1 g _ h2).trans h6, h7.of_bl hb, h8⟩
theorem list_ne {α : Type} {a b : List α} (k : Nat) (h1 : k < a.length) (h2 : k < b.length) (h : a[k] ≠ b[k]) : a ≠ b := by
  rintro rfl; exact h rfl
theorem list_eq {α : Type} {a b : List α} (hl : a.length = b.length) (h : ∀ j (h1 : j < a.length) (h2 : j < b.length), a[j] = b[j]) : a = b := List.ext_getElem hl h

theorem neq_attr (a b : Atr) (W : World) : (binOp .neq 69 (.agg #[.string ⟨a.1.toArray⟩, .string ⟨a.2.toArray⟩]) (.agg #[.string ⟨b.1.toArray⟩, .string ⟨b.2.toArray⟩])).run Tryz.prog W = .ok (.bool (decide (a ≠ b))) W := by
  have hS : Tryz.prog.underlying 69 = some (.struct (Tryz.prog.fieldsOf 69)) := by kernel_rfl
  have hp : Tryz.prog.stoodInHeld 69 = false := by kernel_rfl
  have hs := Tryz.underlying9
  rw [run_neq_struct, show (10000 : Nat) = 9999 + 1 from rfl, run_equalIn_agg W 9999 69 _ _ hS hp]
  simp only [Program.fieldsOf, Tryz.underlying69]
  go_simp
  obtain ⟨a1, a2⟩ := a
  obtain ⟨b1, b2⟩ := b
  by_cases h1 : a1 = b1 <;> by_cases h2 : a2 = b2 <;> simp [h1, h2]
set_option maxHeartbeats 1000000 in
theorem sameAttrs_c (a b : List Atr) (va vb : Value) (hl : a.length ≤ 1099511627776) (w : World) (hA : AtS w va a) (hB : AtS w vb b) :
    Calls Tryz.prog 33 #[va, vb] w fun e w' => e = .returned (.bool (decide (a = b))) ∧ Qt w w' := by
  obtain ⟨ao, ca, rfl, hA⟩ := hA
  obtain ⟨bo, cb, rfl, hB⟩ := hB
  by_cases hlen : a.length = b.length
  · have hlen' : ((a.length : Int) != (b.length : Int)) = false := by simp [hlen]
    have HL := Lib.hid hlen
    have hl2 : b.length ≤ 1099511627776 := by omega
    go_enter Tryz.func33, Tryz.ntmps33
    clear hlen
    go_wp2
    go_loopw [5] (fun i wr => ∃ k : Nat, k ≤ a.length ∧ i = .int .i64 k ∧ Hid (∀ j (h1 : j < a.length) (h2 : j < b.length), j < k → a[j] = b[j]) ∧ Qt w wr) (fun i _ => a.length - (intOf i).toNat)
    case atStart => exact ⟨0, Nat.zero_le _, rfl, Lib.hid (fun j _ _ h => by omega), Qt.refl _⟩
    case round =>
      obtain ⟨k, hk, rfl, HP, hq⟩ := hrel
      by_cases hlt : k < a.length
      · have hltb : k < b.length := by have := HL.out; omega
        have hltb' : (k : Int) < (b.length : Int) := by omega
        obtain ⟨g, o, rfl, hg, h1, h2⟩ := hA k hlt
        obtain ⟨g', o', rfl, hg', h3, h4⟩ := hB k hltb
        have x1 := (hq.bl.cells.1 g _ hg).trans h1
        have x2 := (hq.bl.cells.1 g _ hg).trans h2
        have x3 := (hq.bl.cells.1 g' _ hg').trans h3
        have x4 := (hq.bl.cells.1 g' _ hg').trans h4
        clear h1 h2 h3 h4 hA hB
        have hnq := fun W => neq_attr a[k] b[k] W
        have hmm : Tryz.prog.eqGuardType Tryz.prog.depth 69 = false := by kernel_rfl
        by_cases he : a[k] = b[k]
        · have hne : decide (a[k] ≠ b[k]) = false := by simp [he]
          have HE := Lib.hid he
          clear he
          go_wp2_with (go_quiet (fail))
          go_roundw
          case rel =>
            refine ⟨k + 1, by omega, by go_num, Lib.hid (fun j h1 h2 hj => ?_), hq.drewN _⟩
            by_cases e : j = k
            · subst e; exact HE.out
            · exact HP.out j h1 h2 (by omega)
          case measure => simp [intOf]; omega
        · have hne : decide (a[k] ≠ b[k]) = true := by simp [he]
          have HE := Lib.hid (list_ne k hlt hltb he)
          clear he
          go_wp2_with (go_quiet (fail))
          go_ret
          exact ⟨ret_bool (by rw [decide_eq_false HE.out]), hq.drewN _⟩
      · have HE := Lib.hid (list_eq HL.out (fun j h1 h2 => HP.out j h1 h2 (by omega)))
        go_wp2
        go_ret
        exact ⟨ret_bool (by rw [HE.out]; simp), hq⟩
  · have hlen' : ((a.length : Int) != (b.length : Int)) = true := by simp; omega
    have HL := Lib.hid hlen
    clear hlen
    go_enter Tryz.func33, Tryz.ntmps33
    go_wp2
    go_ret
    exact ⟨ret_bool (by rw [decide_eq_false (fun h => HL.out (by rw [h]))]), Qt.refl _⟩
end Go.Proofs.YtjclpmpphkmpdaaGreatDoor


namespace Go.Proofs.YtjclpmpphkmpdaaGreatDoor
open Go.RowKit

/-- A slice of attributes, in a block of some. -/
def AtP (w : World) (P : Nat → Prop) (v : Value) (l : List Atr) : Prop :=
  ∃ ao cap, v = .slice ao l.length cap ∧ l.length ≤ cap ∧ ∀ i (h : i < l.length), ∃ g o, ao = some ⟨g, o, none⟩ ∧ g < w.heap.size ∧ P g ∧ w.cell? ⟨g, o + i * 2, none⟩ = some (.string ⟨l[i].1.toArray⟩) ∧ w.cell? ⟨g, o + i * 2 + 1, none⟩ = some (.string ⟨l[i].2.toArray⟩)
theorem AtP.ats {w : World} {P : Nat → Prop} {v : Value} {l : List Atr} (h : AtP w P v l) : AtS w v l := by
  obtain ⟨ao, cap, rfl, hc, h⟩ := h
  exact ⟨ao, cap, rfl, fun i hi => by obtain ⟨g, o, h1, h2, _, h3, h4⟩ := h i hi; exact ⟨g, o, h1, h2, h3, h4⟩⟩
theorem AtP.cap {w : World} {P : Nat → Prop} {v : Value} {l : List Atr} (h : AtP w P v l) : CapOk v := by
  obtain ⟨ao, cap, rfl, hc, h⟩ := h; exact ⟨_, _, _, rfl, hc⟩
theorem AtP.nil (w : World) (P : Nat → Prop) : AtP w P (.slice none 0 0) [] := ⟨none, 0, rfl, Nat.le_refl _, fun i hi => absurd hi (by simp)⟩
theorem AtP.mono {w : World} {P Q : Nat → Prop} {v : Value} {l : List Atr} (h : AtP w P v l) (hPQ : ∀ k, P k → Q k) : AtP w Q v l := by
  obtain ⟨ao, cap, rfl, hc, h⟩ := h
  exact ⟨ao, cap, rfl, hc, fun i hi => by obtain ⟨g, o, h1, h2, h5, h3, h4⟩ := h i hi; exact ⟨g, o, h1, h2, hPQ _ h5, h3, h4⟩⟩
theorem AtP.of {w : World} {v : Value} {l : List Atr} (h : AtS w v l) (hc : CapOk v) : AtP w (· < w.heap.size) v l := by
  obtain ⟨ao, cap, rfl, h⟩ := h
  obtain ⟨_, _, _, e, hc⟩ := hc
  cases e
  exact ⟨ao, cap, rfl, hc, fun i hi => by obtain ⟨g, o, h1, h2, h3, h4⟩ := h i hi; exact ⟨g, o, h1, h2, h2, h3, h4⟩⟩
/-- The blocks of P are as they were. -/
structure Still (P : Nat → Prop) (w w' : World) : Prop where
  size : w.heap.size ≤ w'.heap.size
  block : ∀ k, k < w.heap.size → P k → w'.heap[k]? = w.heap[k]?
theorem Still.refl (P : Nat → Prop) (w : World) : Still P w w := ⟨Nat.le_refl _, fun _ _ _ => rfl⟩
theorem Still.trans {P : Nat → Prop} {a b c : World} (h : Still P a b) (k : Still P b c) : Still P a c :=
  ⟨Nat.le_trans h.size k.size, fun i hi hp => (k.block i (Nat.lt_of_lt_of_le hi h.size) hp).trans (h.block i hi hp)⟩
theorem Still.of_bl {P : Nat → Prop} {w w' : World} (h : Bl w w') : Still P w w' := ⟨Below.size h, fun k hk _ => Below.block h k hk⟩
theorem Still.of_gr {P : Nat → Prop} {w w' : World} {g : Option Nat} (h : w.grownBy w' g) (hg : ∀ k, g = some k → ¬ P k) : Still P w w' :=
  ⟨h.size, fun k hk hp => h.block k hk (fun e => hg k e.symm hp)⟩
theorem Still.mono {P Q : Nat → Prop} {w w' : World} (h : Still P w w') (hQ : ∀ k, Q k → P k) : Still Q w w' := ⟨h.size, fun k hk hq => h.block k hk (hQ k hq)⟩
theorem Still.set {P : Nat → Prop} (w : World) (b o : Nat) (v : Value) (hb : ¬ P b) : Still P w (w.setCell ⟨b, o, none⟩ v) :=
  ⟨by simp, fun k hk hp => by
    have : b ≠ k := fun e => hb (e ▸ hp)
    unfold World.setCell
    simp [Array.getElem?_modify, this]⟩
theorem Still.cell {P : Nat → Prop} {w w' : World} (h : Still P w w') {g o : Nat} (hg : g < w.heap.size) (hp : P g) : w'.cell? ⟨g, o, none⟩ = w.cell? ⟨g, o, none⟩ :=
  World.cell?_of_block (h.block g hg hp)
theorem AtP.still {w w' : World} {P : Nat → Prop} {v : Value} {l : List Atr} (h : AtP w P v l) (hs : Still P w w') : AtP w' P v l := by
  obtain ⟨ao, cap, rfl, hc, h⟩ := h
  exact ⟨ao, cap, rfl, hc, fun i hi => by obtain ⟨g, o, h1, h2, h5, h3, h4⟩ := h i hi; exact ⟨g, o, h1, Nat.lt_of_lt_of_le h2 hs.size, h5, (hs.cell h2 h5).trans h3, (hs.cell h2 h5).trans h4⟩⟩

mutual
/-- Four cells read as a node, all that it leads to in blocks of P. -/
def NdC (w : World) (P : Nat → Prop) (g o : Nat) : Nd → Prop
  | .mk n a x k => ∃ va ak ck, w.cell? ⟨g, o, none⟩ = some (.string ⟨n.toArray⟩) ∧ w.cell? ⟨g, o + 1, none⟩ = some va ∧ w.cell? ⟨g, o + 2, none⟩ = some (.string ⟨x.toArray⟩) ∧
      w.cell? ⟨g, o + 3, none⟩ = some (.slice ak k.length ck) ∧ AtP w P va a ∧ k.length ≤ ck ∧ (k ≠ [] → ∃ g' o', ak = some ⟨g', o', none⟩ ∧ g' < w.heap.size ∧ P g' ∧ NdL w P g' o' k)
def NdL (w : World) (P : Nat → Prop) (g o : Nat) : List Nd → Prop
  | [] => True
  | d :: l => NdC w P g o d ∧ NdL w P g (o + 4) l
end
/-- A slice reads as these nodes. -/
def NdS (w : World) (P : Nat → Prop) (v : Value) (l : List Nd) : Prop :=
  ∃ ao cap, v = .slice ao l.length cap ∧ l.length ≤ cap ∧ (l ≠ [] → ∃ g o, ao = some ⟨g, o, none⟩ ∧ g < w.heap.size ∧ P g ∧ NdL w P g o l)
theorem NdC_mk {w : World} {P : Nat → Prop} {g o : Nat} {d : Nd} : NdC w P g o d ↔ ∃ va vk, w.cell? ⟨g, o, none⟩ = some (.string ⟨d.n.toArray⟩) ∧ w.cell? ⟨g, o + 1, none⟩ = some va ∧ w.cell? ⟨g, o + 2, none⟩ = some (.string ⟨d.x.toArray⟩) ∧
      w.cell? ⟨g, o + 3, none⟩ = some vk ∧ AtP w P va d.a ∧ NdS w P vk d.k := by
  cases d with
  | mk n a x k =>
    simp only [NdC, NdS, Nd.n, Nd.a, Nd.x, Nd.k]
    constructor
    · rintro ⟨va, ak, ck, h1, h2, h3, h4, h5, h6, h7⟩
      exact ⟨va, _, h1, h2, h3, h4, h5, ak, ck, rfl, h6, h7⟩
    · rintro ⟨va, vk, h1, h2, h3, h4, h5, ak, ck, rfl, h6, h7⟩
      exact ⟨va, ak, ck, h1, h2, h3, h4, h5, h6, h7⟩
theorem NdL_iff {w : World} {P : Nat → Prop} {g : Nat} (l : List Nd) : ∀ o : Nat, NdL w P g o l ↔ ∀ i (h : i < l.length), NdC w P g (o + i * 4) l[i] := by
  induction l with
  | nil => intro o; simp [NdL]
  | cons d l ih =>
    intro o
    simp only [NdL, ih]
    constructor
    · rintro ⟨h1, h2⟩ i hi
      cases i with
      | zero => simpa using h1
      | succ i =>
        have := h2 i (by simpa using hi)
        simp only [List.getElem_cons_succ]
        rw [show o + (i + 1) * 4 = o + 4 + i * 4 by omega]
        exact this
    · intro h
      refine ⟨by have := h 0 (by simp); rw [Nat.zero_mul, Nat.add_zero] at this; exact this, fun i hi => ?_⟩
      have := h (i + 1) (by simpa using hi)
      simp only [List.getElem_cons_succ] at this
      rw [show o + 4 + i * 4 = o + (i + 1) * 4 by omega]
      exact this
theorem NdS.nil (w : World) (P : Nat → Prop) : NdS w P (.slice none 0 0) [] := ⟨none, 0, rfl, Nat.le_refl _, fun h => absurd rfl h⟩
theorem NdL.mono {w w' : World} {P Q : Nat → Prop} (hs : Still P w w') (hPQ : ∀ k, P k → Q k) (l : List Nd) : ∀ g o, g < w.heap.size → P g → NdL w P g o l → NdL w' Q g o l := by
  induction l using Nd.ind with
  | h0 => intro g o _ _ _; trivial
  | h1 n a x k l ik il =>
    intro g o hg hp h
    simp only [NdL, NdC] at h ⊢
    obtain ⟨⟨va, ak, ck, h1, h2, h3, h4, h5, h6, h7⟩, h8⟩ := h
    refine ⟨⟨va, ak, ck, (hs.cell hg hp).trans h1, (hs.cell hg hp).trans h2, (hs.cell hg hp).trans h3, (hs.cell hg hp).trans h4, (h5.still hs).mono hPQ, h6, fun hk => ?_⟩, il g _ hg hp h8⟩
    obtain ⟨g', o', e, g1, g2, g3⟩ := h7 hk
    exact ⟨g', o', e, Nat.lt_of_lt_of_le g1 hs.size, hPQ _ g2, ik g' o' g1 g2 g3⟩
theorem NdS.mono {w : World} {P Q : Nat → Prop} {v : Value} {l : List Nd} (h : NdS w P v l) (hPQ : ∀ k, P k → Q k) : NdS w Q v l := by
  obtain ⟨ao, cap, rfl, hc, h⟩ := h
  refine ⟨ao, cap, rfl, hc, fun hl => ?_⟩
  obtain ⟨g, o, e, g1, g2, g3⟩ := h hl
  exact ⟨g, o, e, g1, hPQ _ g2, NdL.mono (Still.refl _ _) hPQ l g o g1 g2 g3⟩
theorem NdS.still {w w' : World} {P : Nat → Prop} {v : Value} {l : List Nd} (h : NdS w P v l) (hs : Still P w w') : NdS w' P v l := by
  obtain ⟨ao, cap, rfl, hc, h⟩ := h
  refine ⟨ao, cap, rfl, hc, fun hl => ?_⟩
  obtain ⟨g, o, e, g1, g2, g3⟩ := h hl
  exact ⟨g, o, e, Nat.lt_of_lt_of_le g1 hs.size, g2, NdL.mono hs (fun _ h => h) l g o g1 g2 g3⟩
theorem NdS.of_bl {w w' : World} {P : Nat → Prop} {v : Value} {l : List Nd} (h : NdS w P v l) (hb : Bl w w') : NdS w' P v l := h.still (Still.of_bl hb)
theorem NdS.get {w : World} {P : Nat → Prop} {v : Value} {l : List Nd} (h : NdS w P v l) : ∃ ao cap, v = .slice ao l.length cap ∧ l.length ≤ cap ∧
    ∀ i (hi : i < l.length), ∃ g o va vk, ao = some ⟨g, o, none⟩ ∧ g < w.heap.size ∧ P g ∧ w.cell? ⟨g, o + i * 4, none⟩ = some (.string ⟨l[i].n.toArray⟩) ∧ w.cell? ⟨g, o + i * 4 + 1, none⟩ = some va ∧
      w.cell? ⟨g, o + i * 4 + 2, none⟩ = some (.string ⟨l[i].x.toArray⟩) ∧ w.cell? ⟨g, o + i * 4 + 3, none⟩ = some vk ∧ AtP w P va l[i].a ∧ NdS w P vk l[i].k := by
  obtain ⟨ao, cap, rfl, hc, h⟩ := h
  refine ⟨ao, cap, rfl, hc, fun i hi => ?_⟩
  obtain ⟨g, o, e, g1, g2, g3⟩ := h (by rintro rfl; simp at hi)
  obtain ⟨va, vk, q⟩ := NdC_mk.1 ((NdL_iff l o).1 g3 i hi)
  exact ⟨g, o, va, vk, e, g1, g2, q⟩

/-- The call's own nodes: each with the values of its attributes and of its kids. -/
abbrev Nent := Nd × Value × Value
def ndV (l : List Nent) : List Value := l.flatMap fun p => [.string ⟨p.1.n.toArray⟩, p.2.1, .string ⟨p.1.x.toArray⟩, p.2.2]
theorem ndV_snoc (l : List Nent) (p : Nent) : ndV (l ++ [p]) = ndV l ++ [.string ⟨p.1.n.toArray⟩, p.2.1, .string ⟨p.1.x.toArray⟩, p.2.2] := by simp [ndV]
theorem ndV_len (l : List Nent) : (ndV l).length = l.length * 4 := by
  induction l with
  | nil => rfl
  | cons a l ih => simp only [ndV, List.flatMap_cons, List.length_append, List.length_cons, List.length_nil] at *; omega
theorem ndV_get : ∀ (l : List Nent) (i : Nat) (h : i < l.length), (ndV l)[i * 4]? = some (.string ⟨l[i].1.n.toArray⟩) ∧ (ndV l)[i * 4 + 1]? = some l[i].2.1 ∧ (ndV l)[i * 4 + 2]? = some (.string ⟨l[i].1.x.toArray⟩) ∧ (ndV l)[i * 4 + 3]? = some l[i].2.2 := by
  intro l
  induction l with
  | nil => intro i h; simp at h
  | cons a l ih =>
    intro i h
    cases i with
    | zero => simp [ndV]
    | succ i =>
      have := ih i (by simpa using h)
      have e : (i + 1) * 4 = i * 4 + 1 + 1 + 1 + 1 := by omega
      rw [e]
      simp only [ndV, List.flatMap_cons, List.cons_append, List.nil_append, List.getElem?_cons_succ, List.getElem_cons_succ] at *
      exact this
structure NdO (w : World) (base : Nat) (P : Nat → Prop) (v : Value) (l : List Nd) (ents : List Nent) : Prop where
  eq : ents.map (·.1) = l
  row : w.ownsRow base 51 4 v ents.length (ndV ents)
  low : ∀ k, v.ownBlock = some k → ¬ P k
  all : ∀ p ∈ ents, AtP w P p.2.1 p.1.a ∧ NdS w P p.2.2 p.1.k
theorem NdO.nil (w : World) (base : Nat) (P : Nat → Prop) : NdO w base P (.slice none 0 0) [] [] := ⟨rfl, World.ownsRow_nil _ _ _ _, fun k h => by simp [Value.ownBlock] at h, fun p h => by cases h⟩
theorem NdO.len {w : World} {base : Nat} {P : Nat → Prop} {v : Value} {l : List Nd} {ents : List Nent} (h : NdO w base P v l ents) : ents.length = l.length := by rw [← h.eq]; simp
theorem NdO.still {w w' : World} {base : Nat} {P : Nat → Prop} {v : Value} {l : List Nd} {ents : List Nent} (h : NdO w base P v l ents) (hs : Still (fun k => P k ∨ v.ownBlock = some k) w w') : NdO w' base P v l ents := by
  have hP : Still P w w' := hs.mono fun k hk => .inl hk
  refine ⟨h.eq, ⟨h.row.1, ?_⟩, h.low, fun p hp => ⟨(h.all p hp).1.still hP, (h.all p hp).2.still hP⟩⟩
  rcases h.row.2 with hn | ⟨g, cap, cur, rfl, hg, hgg, rest⟩
  · exact .inl hn
  · refine .inr ⟨g, cap, cur, rfl, hg, ?_, rest⟩
    rw [hs.block g (Array.getElem?_eq_some_iff.1 hgg).1 (.inr rfl)]
    exact hgg
theorem NdO.of_bl {w w' : World} {base : Nat} {P : Nat → Prop} {v : Value} {l : List Nd} {ents : List Nent} (h : NdO w base P v l ents) (hb : Bl w w') : NdO w' base P v l ents := h.still (Still.of_bl hb)
theorem NdO.mono {w : World} {base : Nat} {P Q : Nat → Prop} {v : Value} {l : List Nd} {ents : List Nent} (h : NdO w base P v l ents) (hPQ : ∀ k, P k → Q k) (hQ : ∀ k, v.ownBlock = some k → ¬ Q k) : NdO w base Q v l ents :=
  ⟨h.eq, h.row, hQ, fun p hp => ⟨(h.all p hp).1.mono hPQ, (h.all p hp).2.mono hPQ⟩⟩
theorem NdO.lt {w : World} {base : Nat} {P : Nat → Prop} {v : Value} {l : List Nd} {ents : List Nent} (h : NdO w base P v l ents) : ∀ k, v.ownBlock = some k → base ≤ k ∧ k < w.heap.size := World.ownsRow.lt h.row
/-- Own nodes that are written no more. -/
theorem NdO.nds {w : World} {base : Nat} {P : Nat → Prop} {v : Value} {l : List Nd} {ents : List Nent} (h : NdO w base P v l ents) : NdS w (fun k => P k ∨ v.ownBlock = some k) v l := by
  obtain ⟨rfl, h2, h3, h4⟩ := h
  have h' := h2
  rcases h2.2 with ⟨rfl, h0⟩ | ⟨g, cap, cur, rfl, -, hg, hnc, -⟩
  · have : ents = [] := List.eq_nil_of_length_eq_zero h0
    subst this
    exact NdS.nil _ _
  · refine ⟨some ⟨g, 0, none⟩, cap, by simp, by simpa using hnc, fun _ => ⟨g, 0, rfl, (Array.getElem?_eq_some_iff.1 hg).1, .inr rfl, (NdL_iff _ _).2 fun i hi => ?_⟩⟩
    have hi' : i < ents.length := by simpa using hi
    obtain ⟨t1, t2, t3, t4⟩ := ndV_get ents i hi'
    have key := fun j u (h : (ndV ents)[j]? = some u) => (World.ownsRow.cellAt h' j (by have := List.getElem?_eq_some_iff.1 h; obtain ⟨q, _⟩ := this; rw [ndV_len] at q; exact q)).trans h
    have hall := h4 ents[i] (List.getElem_mem hi')
    refine NdC_mk.2 ⟨ents[i].2.1, ents[i].2.2, ?_, ?_, ?_, ?_, ?_, ?_⟩
    · have := key _ _ t1; simpa using this
    · have := key _ _ t2; simpa using this
    · have := key _ _ t3; simpa using this
    · have := key _ _ t4; simpa using this
    · have := hall.1.mono (Q := fun k => P k ∨ Value.ownBlock (.slice (some ⟨g, 0, none⟩) ents.length cap) = some k) (fun _ h => .inl h); simpa using this
    · have := hall.2.mono (Q := fun k => P k ∨ Value.ownBlock (.slice (some ⟨g, 0, none⟩) ents.length cap) = some k) (fun _ h => .inl h); simpa using this
/-- A node more. -/
theorem NdO.snoc {w wz : World} {base : Nat} {P : Nat → Prop} {v v' : Value} {l : List Nd} {ents : List Nent} (d : Nd) (va vk : Value) (h : NdO w base P v l ents) (hP : ∀ k, P k → k < w.heap.size) (ha : AtP w P va d.a) (hk : NdS w P vk d.k)
    (hown : wz.ownsRow base 51 4 v' (ents.length + 1) (ndV ents ++ [.string ⟨d.n.toArray⟩, va, .string ⟨d.x.toArray⟩, vk])) (hg : Grew w wz v v') : NdO wz base P v' (l ++ [d]) (ents ++ [(d, va, vk)]) := by
  have hs : Still P w wz := by
    rcases hg with ⟨_, hg⟩ | ⟨hg, _⟩
    · exact Still.of_gr hg h.low
    · exact Still.of_gr hg (fun k e => by cases e)
  refine ⟨by simp [h.eq], by rw [ndV_snoc, List.length_append]; exact hown, fun k e hp => ?_, fun p hp => ?_⟩
  · rcases hg with ⟨e2, _⟩ | ⟨_, j, e2, hj⟩
    · exact h.low k (e2.symm.trans e) hp
    · have := hP k hp; rw [e2] at e; cases e; omega
  · rcases List.mem_append.1 hp with hp | hp
    · exact ⟨(h.all p hp).1.still hs, (h.all p hp).2.still hs⟩
    · rw [List.mem_singleton] at hp; subst hp; exact ⟨ha.still hs, hk.still hs⟩
theorem ndV_set (o : List Nent) (d : Nd) (va vk : Value) (y : List UInt8) : (ndV (o ++ [(d, va, vk)])).set (o.length * 4 + 2) (.string ⟨y.toArray⟩) = ndV (o ++ [(.mk d.n d.a y d.k, va, vk)]) := by
  rw [ndV_snoc, ndV_snoc, List.set_append_right _ _ (by rw [ndV_len]; omega), ndV_len, show o.length * 4 + 2 - o.length * 4 = 2 by omega]
  rfl
/-- The last one's text is written. -/
theorem NdO.settext {w : World} {base : Nat} {P : Nat → Prop} {g cap n : Nat} {l : List Nd} {d : Nd} {ents : List Nent} (h : NdO w base P (.slice (some ⟨g, 0, none⟩) n cap) (l ++ [d]) ents) (y : List UInt8) :
    ∃ ents', NdO (w.setCell ⟨g, l.length * 4 + 2, none⟩ (.string ⟨y.toArray⟩)) base P (.slice (some ⟨g, 0, none⟩) n cap) (l ++ [.mk d.n d.a y d.k]) ents' := by
  obtain ⟨h1, h2, h3, h4⟩ := h
  rcases List.eq_nil_or_concat ents with rfl | ⟨o, p, rfl⟩
  · simp at h1
  · obtain ⟨d', va, vk⟩ := p
    rw [List.concat_eq_append] at *
    rw [List.map_append, List.map_singleton] at h1
    obtain ⟨hl, e⟩ := List.append_inj' h1 rfl
    simp only [List.cons.injEq, and_true] at e
    subst e
    have hol : l.length = o.length := by rw [← hl]; simp
    rw [hol]
    have hn : n = (o ++ [(d', va, vk)]).length := by
      rcases h2.2 with ⟨e, _⟩ | ⟨g, cap, cur, e, _⟩ <;> simp at e ⊢
      omega
    subst hn
    have hst := World.ownsRow.stored h2 (o.length * 4 + 2) (.string ⟨y.toArray⟩)
    have hS : Still P w (w.setCell ⟨g, o.length * 4 + 2, none⟩ (.string ⟨y.toArray⟩)) := Still.set _ _ _ _ (h3 g rfl)
    refine ⟨o ++ [(.mk d'.n d'.a y d'.k, va, vk)], by simp [hl], ?_, h3, fun p hp => ?_⟩
    · rw [← ndV_set]
      simpa using hst.1
    · rcases List.mem_append.1 hp with hp | hp
      · have := h4 p (List.mem_append_left _ hp); exact ⟨this.1.still hS, this.2.still hS⟩
      · rw [List.mem_singleton] at hp; subst hp
        have := h4 (d', va, vk) (by simp); exact ⟨this.1.still hS, this.2.still hS⟩
end Go.Proofs.YtjclpmpphkmpdaaGreatDoor

namespace Go.Proofs.YtjclpmpphkmpdaaGreatDoor
open Go.RowKit

mutual
/-- How deep nodes stand. -/
def dpN : Nd → Nat
  | .mk n _ _ k => if n = [] then 0 else 1 + dpL k
def dpL : List Nd → Nat
  | [] => 0
  | d :: l => max (dpN d) (dpL l)
end
mutual
def cntN : Nd → Nat
  | .mk _ _ _ k => 1 + cntL k
def cntL : List Nd → Nat
  | [] => 0
  | d :: l => cntN d + cntL l
end
theorem dp_of (l : List Nd) : ∀ f, deepL f l ≤ f → dpL l ≤ f := by
  induction l using Nd.ind with
  | h0 => intro f _; simp [dpL]
  | h1 n a x k l ik il =>
    intro f h
    simp only [deepL, dpL, Nat.max_le, deepN, dpN] at h ⊢
    refine ⟨?_, il f h.2⟩
    split
    · omega
    · rename_i hn
      rw [if_neg hn] at h
      cases f with
      | zero => simp at h
      | succ f => have := ik f (by have := h.1; simp only [] at this; omega); omega
theorem deep_le (l : List Nd) : ∀ f, deepL f l ≤ dpL l := by
  induction l using Nd.ind with
  | h0 => intro f; simp [deepL]
  | h1 n a x k l ik il =>
    intro f
    have := il f
    simp only [deepL, dpL, deepN, dpN]
    by_cases hn : n = []
    · simp only [if_pos hn]; omega
    · simp only [if_neg hn]
      cases f with
      | zero => simp only []; omega
      | succ f => have := ik f; simp only []; omega
theorem many_le (l : List Nd) : ∀ f, manyL f l ≤ cntL l := by
  induction l using Nd.ind with
  | h0 => intro f; simp [manyL]
  | h1 n a x k l ik il =>
    intro f
    have := il f
    simp only [manyL, cntL, manyN, cntN]
    by_cases hn : n = []
    · simp only [if_pos hn]; omega
    · simp only [if_neg hn]
      cases f with
      | zero => simp only []; omega
      | succ f => have := ik f; simp only []; omega
/-- The last of nodes is a text. -/
def lastT (o : List Nd) : Bool := match o.getLast? with | some d => decide (d.n = []) | none => false
theorem lastT_snoc (o : List Nd) (d : Nd) : lastT (o ++ [d]) = decide (d.n = []) := by simp [lastT]
theorem pt_no (o : List Nd) (d : Nd) (h : lastT o = false) : pt o d = o ++ [d] := by
  unfold pt
  unfold lastT at h
  split
  · rename_i a x k e
    rw [e] at h; simp [Nd.n] at h
  · rfl
theorem ckL_cons {r : List Nm} {p : Bool} {d : Nd} {l : List Nd} (h : ckL r p (d :: l) = 0) : ckN r p d = 0 ∧ ckL r (decide (d.n = [])) l = 0 := by
  simp only [ckL] at h
  split at h
  · rename_i a; exact absurd h a
  · rename_i a; exact ⟨Decidable.not_not.1 a, h⟩
theorem ckN_mk {r : List Nm} {p : Bool} {n : Nm} {a : List Atr} {x : List UInt8} {k : List Nd} (h : ckN r p (.mk n a x k) = 0) : ndE r (.mk n a x k) = 0 ∧ ¬ (p = true ∧ n = []) ∧ ckL (n :: r) false k = 0 := by
  simp only [ckN] at h
  split at h
  · rename_i a; exact absurd h a
  · rename_i a
    split at h
    · simp at h
    · rename_i b; exact ⟨Decidable.not_not.1 a, b, h⟩
theorem ndE_el {r : List Nm} {n : Nm} {a : List Atr} {x : List UInt8} {k : List Nd} (h : ndE r (.mk n a x k) = 0) (hn : n ≠ []) : x = [] ∧ isNm n = true ∧ (emptyN n = true → k = []) ∧ atE a = 0 ∧ cls r n = r.length := by
  simp only [ndE, if_neg hn] at h
  split at h
  · simp at h
  rename_i h1
  split at h
  · rename_i h2; exact absurd h h2
  rename_i h2
  split at h
  · simp at h
  rename_i h3
  refine ⟨Decidable.not_not.1 (fun e => h1 (.inl e)), ?_, fun e => Decidable.byContradiction fun e2 => h1 (.inr (.inr ⟨e, e2⟩)), Decidable.not_not.1 h2, ?_⟩
  · cases e : isNm n
    · exact absurd (.inr (.inl e)) h1
    · rfl
  · have := cls_le r n; omega
theorem ndE_tx {r : List Nm} {a : List Atr} {x : List UInt8} {k : List Nd} (h : ndE r (.mk [] a x k) = 0) : x ≠ [] ∧ a = [] ∧ k = [] := by
  simp only [ndE, if_true] at h
  split at h
  · simp at h
  rename_i h1
  exact ⟨fun e => h1 (.inl e), Decidable.byContradiction fun e => h1 (.inr (.inl e)), Decidable.byContradiction fun e => h1 (.inr (.inr e))⟩
theorem abv_self (n : Nm) (r : List Nm) (stop : Nm → Bool) : abv n stop (n :: r) = some r.length := by simp [abv]
theorem flt_run (l : List Nd) : ∀ (r : List Nm) (p : Bool) (out : List Nd) (s : St), ckL r p l = 0 → nms s = r → r.length + dpL l ≤ 8 → lastT out = p →
    (fltL l).foldl stp (setK s out) = setK s (out ++ l) := by
  induction l using Nd.ind with
  | h0 => intro r p out s _ _ _ _; simp [fltL]
  | h1 n a x k l ik il =>
    intro r p out s hc hs hd hp
    obtain ⟨h1, h2⟩ := ckL_cons hc
    obtain ⟨h3, h4, h5⟩ := ckN_mk h1
    simp only [dpL, dpN] at hd
    simp only [fltL, fltN, List.foldl_append]
    have hsl : s.2.length = r.length := by rw [← nms_len, hs]
    have rest := il r (decide (n = [])) (out ++ [.mk n a x k]) s h2 hs (by omega) (by rw [lastT_snoc]; rfl)
    rw [show out ++ .mk n a x k :: l = out ++ [.mk n a x k] ++ l by simp, ← rest]
    congr 1
    by_cases hn : n = []
    · subst hn
      obtain ⟨g1, rfl, rfl⟩ := ndE_tx h3
      rw [if_pos rfl]
      simp only [List.foldl_cons, List.foldl_nil]
      unfold stp
      rw [if_pos rfl, put_setK, pt_no]
      rw [hp]
      cases p
      · rfl
      · exact absurd ⟨rfl, rfl⟩ h4
    · obtain ⟨rfl, g2, g3, g4, g5⟩ := ndE_el h3 hn
      rw [if_neg hn, List.foldl_cons]
      rw [if_neg hn] at hd
      have e1 : stp (setK s out) (2, n, a, []) = opn (setK s out) n a := by
        unfold stp
        rw [if_neg (show ¬ (2 : Int) = 1 by decide), if_pos rfl, setK_nms, hs]
        simp only [g5, setK_len, hsl, Nat.sub_self, pops_zero]
      rw [e1]
      unfold opn
      rw [if_neg (by rw [setK_len, hsl]; omega)]
      by_cases he : emptyN n = true
      · rw [if_pos he, if_pos he, g3 he]
        simp only [List.foldl_nil]
        rw [put_setK, pt_el _ _ (by exact hn)]
      · rw [if_neg he, if_neg he, List.foldl_append]
        have hnm : nms ((setK s out).1, (n, a, []) :: (setK s out).2) = n :: r := by
          have := setK_nms s out
          rw [hs] at this
          simp only [nms, List.map_cons] at this ⊢
          rw [this]
        have := ik (n :: r) false [] ((setK s out).1, (n, a, []) :: (setK s out).2) h5 hnm (by simp; omega) rfl
        rw [show ((setK s out).1, (n, a, []) :: (setK s out).2) = setK ((setK s out).1, (n, a, []) :: (setK s out).2) [] from rfl, this]
        simp only [List.foldl_cons, List.foldl_nil, List.nil_append]
        unfold stp
        rw [if_neg (show ¬ (3 : Int) = 1 by decide), if_neg (show ¬ (3 : Int) = 2 by decide), if_pos rfl, setK_nms, hnm]
        simp only [abv_self, setK_len, List.length_cons, hsl]
        rw [show r.length + 1 - r.length = 0 + 1 by omega, pops_succ, pops_zero]
        show put ((setK s out).1, (setK s out).2) _ = _
        rw [show ((setK s out).1, (setK s out).2) = setK s out from rfl, put_setK, pt_el _ _ (by exact hn)]
theorem ckT_zero {l : List Nd} (h : ckT l = 0) : manyL 8 l ≤ 3000 ∧ dpL l ≤ 8 ∧ ckL [] false l = 0 := by
  unfold ckT at h
  split at h
  · simp at h
  · rename_i h1; exact ⟨by omega, dp_of l 8 (by omega), h⟩
/-- Built of its own tokens a tree is the same. -/
theorem ofM_flt (l : List Nd) (h : ckT l = 0) : ofM (fltL l) = l := by
  obtain ⟨h1, h2, h3⟩ := ckT_zero h
  have := flt_run l [] false [] ([], []) h3 rfl (by simpa using h2) rfl
  unfold ofM
  rw [show (([], []) : St) = setK ([], []) [] from rfl, this]
  rfl
theorem tkE_tx {x : List UInt8} (h : x ≠ []) : tkE (1, [], [], x) = 0 := by simp [tkE, h]
theorem tkE_op {n : Nm} {a : List Atr} (h : isNm n = true) (ha : atE a = 0) : tkE (2, n, a, []) = 0 := by simp [tkE, h, ha]
theorem tkE_cl {n : Nm} (h : isNm n = true) : tkE (3, n, [], []) = 0 := by simp [tkE, h, atE, atEF]
theorem flt_ck (l : List Nd) : ∀ (r : List Nm) (p : Bool) (k : Int) (rest : List Tok), ckL r p l = 0 → (k = 1 → p = true) → (∀ j, tkEF j rest = 0) → tkEF k (fltL l ++ rest) = 0 := by
  induction l using Nd.ind with
  | h0 => intro r p k rest _ _ h; simp [fltL, h]
  | h1 n a x kk l ik il =>
    intro r p k rest hc hp hr
    obtain ⟨h1, h2⟩ := ckL_cons hc
    obtain ⟨h3, h4, h5⟩ := ckN_mk h1
    simp only [fltL, fltN, List.append_assoc]
    by_cases hn : n = []
    · subst hn
      obtain ⟨g1, rfl, rfl⟩ := ndE_tx h3
      have := il r _ 1 rest h2 (fun _ => by simp [Nd.n]) hr
      simp only [if_true, List.cons_append, List.nil_append, tkEF, tkE_tx g1]
      rw [if_neg (by simp), if_neg, this]
      rintro ⟨-, e⟩; exact h4 ⟨hp e, rfl⟩
    · obtain ⟨rfl, g2, g3, g4, g5⟩ := ndE_el h3 hn
      have hlast : ∀ j : Int, j ≠ 1 → tkEF j (fltL l ++ rest) = 0 := fun j hj => il r _ j rest h2 (fun e => absurd e hj) hr
      rw [if_neg hn]
      simp only [List.cons_append, tkEF, tkE_op g2 g4]
      rw [if_neg (by simp), if_neg (by simp)]
      by_cases he : emptyN n = true
      · rw [if_pos he]; exact hlast 2 (by decide)
      · rw [if_neg he, List.append_assoc]
        refine ik (n :: r) false 2 _ h5 (fun e => by simp at e) (fun j => ?_)
        simp only [List.cons_append, List.nil_append, tkEF, tkE_cl g2]
        rw [if_neg (by simp), if_neg (by simp)]
        exact hlast 3 (by decide)
/-- The tokens of a tree that is right are right. -/
theorem ckE_flt (l : List Nd) (h : ckT l = 0) (hl : (fltL l).length ≤ 3000) : ckE (fltL l) = 0 := by
  obtain ⟨h1, h2, h3⟩ := ckT_zero h
  unfold ckE
  rw [if_neg (by omega)]
  have := flt_ck l [] false 0 [] h3 (fun e => by simp at e) (fun j => rfl)
  simpa using this

/-- What a builder holds is right. -/
def IvF (m : Nat) : List (Nm × List Atr × List Nd) → Prop
  | [] => True
  | (n, a, k) :: f => n ≠ [] ∧ isNm n = true ∧ emptyN n = false ∧ atE a = 0 ∧ cls (f.map (·.1)) n = f.length ∧ ckL (n :: f.map (·.1)) false k = 0 ∧ f.length + 1 + dpL k ≤ 8 ∧ IvF m f
def Iv (s : St) : Prop := IvF 0 s.2 ∧ ckL [] false s.1 = 0 ∧ dpL s.1 ≤ 8
theorem ckL_app (r : List Nm) : ∀ (l : List Nd) (p : Bool) (m : List Nd), ckL r p l = 0 → ckL r (if l = [] then p else lastT l) m = 0 → ckL r p (l ++ m) = 0 := by
  intro l
  induction l with
  | nil => intro p m _ h; simpa using h
  | cons d l ih =>
    intro p m h hm
    obtain ⟨h1, h2⟩ := ckL_cons h
    simp only [List.cons_append, ckL]
    rw [if_neg (by simp [h1])]
    refine ih _ m h2 ?_
    rw [if_neg (by simp)] at hm
    split
    · rename_i e; subst e; simpa [lastT] using hm
    · rename_i e
      have : lastT (d :: l) = lastT l := by unfold lastT; rw [List.getLast?_cons]; cases e2 : l.getLast? with
        | none => simp at e2; exact absurd e2 e
        | some v => simp
      rw [← this]; exact hm
theorem ckL_init (r : List Nm) : ∀ (l : List Nd) (p : Bool) (d : Nd), ckL r p (l ++ [d]) = 0 → ckL r p l = 0 ∧ ckN r (if l = [] then p else lastT l) d = 0 := by
  intro l
  induction l with
  | nil => intro p d h; exact ⟨rfl, (ckL_cons h).1⟩
  | cons c l ih =>
    intro p d h
    obtain ⟨h1, h2⟩ := ckL_cons (l := l ++ [d]) h
    obtain ⟨g1, g2⟩ := ih _ d h2
    refine ⟨?_, ?_⟩
    · simp only [ckL]; rw [if_neg (by simp [h1])]; exact g1
    · rw [if_neg (by simp)]
      split at g2
      · rename_i e; subst e; simpa [lastT] using g2
      · rename_i e
        have : lastT (c :: l) = lastT l := by unfold lastT; rw [List.getLast?_cons]; cases e2 : l.getLast? with
          | none => simp at e2; exact absurd e2 e
          | some v => simp
        rw [this]; exact g2
theorem ckN_any {r : List Nm} {p q : Bool} {d : Nd} (h : ckN r p d = 0) (hq : q = true → d.n ≠ []) : ckN r q d = 0 := by
  cases d with
  | mk n a x k =>
    obtain ⟨h1, h2, h3⟩ := ckN_mk h
    simp only [ckN]
    rw [if_neg (by simp [h1]), if_neg (by rintro ⟨a, b⟩; exact hq a b), h3]
theorem pt_ck (r : List Nm) (l : List Nd) (d : Nd) (h : ckL r false l = 0) (hd : ckN r false d = 0) : ckL r false (pt l d) = 0 := by
  by_cases hT : lastT l = true ∧ d.n = []
  · obtain ⟨hT, hn⟩ := hT
    rcases List.eq_nil_or_concat l with rfl | ⟨o, c, rfl⟩
    · simp [lastT] at hT
    · rw [List.concat_eq_append] at *
      rw [lastT_snoc] at hT
      cases c with
      | mk n a x k =>
        obtain rfl : n = [] := of_decide_eq_true hT
        obtain ⟨g1, g2⟩ := ckL_init r o false _ h
        obtain ⟨g3, g4, g5⟩ := ckN_mk g2
        obtain ⟨g6, rfl, rfl⟩ := ndE_tx g3
        have e : pt (o ++ [.mk [] [] x []]) d = o ++ [.mk [] [] (x ++ d.x) []] := by
          unfold pt; simp [hn]
        rw [e]
        refine ckL_app r o false _ g1 ?_
        simp only [ckL, ckN, ndE]
        have g7 : ¬ (if o = [] then false else lastT o) = true := fun e => g4 ⟨e, rfl⟩
        simp [g6]
        intro e1 e2
        rw [if_neg e1] at g7
        exact absurd e2 g7
  · have hap : pt l d = l ++ [d] := by
      by_cases hL : lastT l = true
      · exact pt_el l d (fun e => hT ⟨hL, e⟩)
      · exact pt_no l d (by simpa using hL)
    rw [hap]
    refine ckL_app r l false _ h ?_
    have : ckN r (if l = [] then false else lastT l) d = 0 := by
      refine ckN_any hd (fun e => ?_)
      split at e
      · simp at e
      · exact fun e2 => hT ⟨e, e2⟩
    simp only [ckL]
    rw [if_neg (fun e => e this)]
theorem dp_app (l m : List Nd) : dpL (l ++ m) = max (dpL l) (dpL m) := by
  induction l with
  | nil => simp [dpL]
  | cons d l ih => simp only [List.cons_append, dpL, ih]; omega
theorem pt_dp (l : List Nd) (d : Nd) (m : Nat) (h : dpL l ≤ m) (hd : dpN d ≤ m) : dpL (pt l d) ≤ m := by
  unfold pt
  split
  · rename_i a x k e
    split
    · rcases List.eq_nil_or_concat l with rfl | ⟨o, c, rfl⟩
      · simp at e
      · simp only [List.concat_eq_append, List.getLast?_append, List.getLast?_singleton, Option.some_or, Option.some.injEq, List.dropLast_concat] at *
        rw [dp_app] at *
        simp [dpL, dpN] at *; omega
    · rw [dp_app]; simp only [dpL]; omega
  · rw [dp_app]; simp only [dpL]; omega
theorem iv_put {s : St} {d : Nd} (h : Iv s) (hd : ckN (nms s) false d = 0) (hp : s.2.length + dpN d ≤ 8) : Iv (put s d) := by
  obtain ⟨r, f⟩ := s
  cases f with
  | nil => exact ⟨trivial, pt_ck _ _ _ h.2.1 hd, pt_dp _ _ _ h.2.2 (by simpa using hp)⟩
  | cons c f =>
    obtain ⟨n, a, k⟩ := c
    obtain ⟨⟨h1, h2, h3, h4, h5, h6, h7, h8⟩, g⟩ := h
    simp only [List.length_cons] at hp
    refine ⟨⟨h1, h2, h3, h4, h5, pt_ck _ _ _ h6 hd, ?_, h8⟩, g⟩
    have := pt_dp k d (8 - (f.length + 1)) (by omega) (by omega)
    omega
theorem iv_pop {s : St} (h : Iv s) : Iv (pop s) := by
  obtain ⟨r, f⟩ := s
  cases f with
  | nil => exact h
  | cons c f =>
    obtain ⟨n, a, k⟩ := c
    obtain ⟨⟨h1, h2, h3, h4, h5, h6, h7, h8⟩, g⟩ := h
    refine iv_put (s := (r, f)) ⟨h8, g⟩ ?_ ?_
    · show ckN (f.map (·.1)) false _ = 0
      simp only [ckN, ndE, if_neg h1]
      rw [if_neg (show ¬ (([] : List UInt8) ≠ [] ∨ isNm n = false ∨ emptyN n = true ∧ k ≠ []) by simp [h2, h3])]
      simp [h4, h5, h6, h1]
    · simp only [dpN, if_neg h1]; omega
theorem iv_pops (j : Nat) : ∀ {s : St}, Iv s → Iv (pops j s) := by
  induction j with
  | zero => intro s h; exact h
  | succ j ih => intro s h; exact ih (iv_pop h)
theorem iv_good {m : Nat} : ∀ {f : List (Nm × List Atr × List Nd)}, IvF m f → Good (f.map (·.1)) := by
  intro f
  induction f with
  | nil => intro _; trivial
  | cons c f ih =>
    obtain ⟨n, a, k⟩ := c
    intro h
    exact ⟨by simpa using h.2.2.2.2.1, ih h.2.2.2.2.2.2.2⟩
theorem iv_len {m : Nat} {f : List (Nm × List Atr × List Nd)} (h : IvF m f) : f.length ≤ 8 := by
  cases f with
  | nil => simp
  | cons c f => obtain ⟨n, a, k⟩ := c; have := h.2.2.2.2.2.2.1; simp; omega
theorem tkE_zero {t : Tok} (h : tkE t = 0) : TOk t ∧ (t.1 = 1 → t.2.1 = [] ∧ t.2.2.1 = [] ∧ t.2.2.2 ≠ []) ∧ (t.1 ≠ 1 → t.2.2.2 = [] ∧ isNm t.2.1 = true ∧ t.2.1 ≠ [] ∧ atE t.2.2.1 = 0) := by
  unfold tkE at h
  split at h
  · simp at h
  rename_i h1
  split at h
  · simp at h
  rename_i h2
  have e1 : t.1 ≠ 1 → isNm t.2.1 = true ∧ atE t.2.2.1 = 0 := by
    intro e
    rw [if_neg e] at h
    split at h
    · simp at h
    · rename_i h3; exact ⟨by simpa using h3, h⟩
  refine ⟨⟨by omega, fun e => isNm_ne (e1 (by omega)).1⟩, fun e => ⟨?_, ?_, ?_⟩, fun e => ⟨?_, (e1 e).1, isNm_ne (e1 e).1, (e1 e).2⟩⟩
  · exact Decidable.byContradiction fun q => h2 (.inl ⟨e, .inl q⟩)
  · exact Decidable.byContradiction fun q => h2 (.inl ⟨e, .inr (.inl q)⟩)
  · exact fun q => h2 (.inl ⟨e, .inr (.inr q)⟩)
  · exact Decidable.byContradiction fun q => h2 (.inr (.inl ⟨e, q⟩))
theorem iv_stp {s : St} {t : Tok} (h : Iv s) (ht : tkE t = 0) : Iv (stp s t) := by
  obtain ⟨hk, h1, h2⟩ := tkE_zero ht
  unfold stp
  by_cases e1 : t.1 = 1
  · rw [if_pos e1]
    obtain ⟨g1, g2, g3⟩ := h1 e1
    refine iv_put h ?_ ?_
    · simp [ckN, ndE, g3, ckL]
    · simp only [dpN, if_true]; have := iv_len h.1; omega
  rw [if_neg e1]
  obtain ⟨g1, g2, g3, g4⟩ := h2 e1
  by_cases e2 : t.1 = 2
  · rw [if_pos e2]
    have hP := iv_pops (s.2.length - cls (nms s) t.2.1) h
    obtain ⟨S, hS⟩ : ∃ S, S = pops (s.2.length - cls (nms s) t.2.1) s := ⟨_, rfl⟩
    have hcl : cls (nms S) t.2.1 = S.2.length := by
      rw [hS, pops_nms, pops_len, ← nms_len, cls_idem (nms s) _ (iv_good h.1)]
      have := cls_le (nms s) t.2.1; omega
    rw [← hS] at hP ⊢
    unfold opn
    have hl := iv_len hP.1
    split
    · exact hP
    rename_i h8
    split
    · rename_i he
      refine iv_put hP ?_ ?_
      · simp only [ckN, ndE, if_neg g3]
        rw [if_neg (show ¬ (([] : List UInt8) ≠ [] ∨ isNm t.2.1 = false ∨ emptyN t.2.1 = true ∧ ([] : List Nd) ≠ []) by simp [g2])]
        rw [nms_len]
        simp [g4, hcl, ckL]
      · simp only [dpN, if_neg g3, dpL]; omega
    · rename_i he
      refine ⟨⟨g3, g2, by simpa using he, g4, hcl, rfl, by simp only [dpL]; omega, hP.1⟩, hP.2⟩
  rw [if_neg e2]
  split
  · split
    · exact iv_pops _ h
    · exact h
  · exact h
theorem iv_foldl (l : List Tok) : ∀ {s : St}, Iv s → (∀ t ∈ l, tkE t = 0) → Iv (l.foldl stp s) := by
  induction l with
  | nil => intro s h _; exact h
  | cons t l ih => intro s h ht; exact ih (iv_stp h (ht t (by simp))) (fun u hu => ht u (by simp [hu]))
theorem tkEF_each (l : List Tok) : ∀ k, tkEF k l = 0 → ∀ t ∈ l, tkE t = 0 := by
  induction l with
  | nil => intro k _ t ht; simp at ht
  | cons u l ih =>
    intro k h t ht
    simp only [tkEF] at h
    split at h
    · rename_i a; exact absurd h a
    rename_i a
    split at h
    · simp at h
    rcases List.mem_cons.1 ht with rfl | ht
    · exact Decidable.not_not.1 a
    · exact ih _ h t ht
theorem ckE_all {l : List Tok} (h : ckE l = 0) : l.length ≤ 3000 ∧ ∀ t ∈ l, tkE t = 0 := by
  unfold ckE at h
  split at h
  · simp at h
  · exact ⟨by omega, tkEF_each l 0 h⟩
theorem cnt_app (l m : List Nd) : cntL (l ++ m) = cntL l + cntL m := by
  induction l with
  | nil => simp [cntL]
  | cons d l ih => simp only [List.cons_append, cntL, ih]; omega
theorem pt_cnt (l : List Nd) (d : Nd) : cntL (pt l d) ≤ cntL l + cntN d := by
  unfold pt
  split
  · rename_i a x k e
    split
    · rcases List.eq_nil_or_concat l with rfl | ⟨o, c, rfl⟩
      · simp at e
      · simp only [List.concat_eq_append, List.getLast?_append, List.getLast?_singleton, Option.some_or, Option.some.injEq, List.dropLast_concat] at *
        subst e
        rw [cnt_app, cnt_app]
        simp only [cntL, cntN]; omega
    · rw [cnt_app]; simp [cntL]
  · rw [cnt_app]; simp [cntL]
/-- How many nodes a builder holds. -/
def cntF : List (Nm × List Atr × List Nd) → Nat
  | [] => 0
  | (_, _, k) :: f => 1 + cntL k + cntF f
def cntS (s : St) : Nat := cntL s.1 + cntF s.2
theorem put_cnt (s : St) (d : Nd) : cntS (put s d) ≤ cntS s + cntN d := by
  obtain ⟨r, f⟩ := s
  cases f with
  | nil => have := pt_cnt r d; simp only [put, cntS, cntF]; omega
  | cons c f => obtain ⟨n, a, k⟩ := c; have := pt_cnt k d; simp only [put, cntS, cntF]; omega
theorem pop_cnt (s : St) : cntS (pop s) ≤ cntS s := by
  obtain ⟨r, f⟩ := s
  cases f with
  | nil => exact Nat.le_refl _
  | cons c f =>
    obtain ⟨n, a, k⟩ := c
    have := put_cnt (r, f) (.mk n a [] k)
    simp only [pop, cntS, cntF, cntN] at *; omega
theorem pops_cnt (j : Nat) : ∀ s : St, cntS (pops j s) ≤ cntS s := by
  induction j with
  | zero => intro s; exact Nat.le_refl _
  | succ j ih => intro s; exact Nat.le_trans (ih _) (pop_cnt s)
theorem stp_cnt (s : St) (t : Tok) : cntS (stp s t) ≤ cntS s + 1 := by
  unfold stp
  split
  · have := put_cnt s (.mk [] [] t.2.2.2 []); simp only [cntN, cntL] at this; omega
  split
  · have h1 := pops_cnt (s.2.length - cls (nms s) t.2.1) s
    unfold opn
    split
    · omega
    split
    · have h2 := put_cnt (pops (s.2.length - cls (nms s) t.2.1) s) (.mk t.2.1 t.2.2.1 [] []); simp only [cntN, cntL] at h2; omega
    · simp only [cntS, cntF, cntL] at *; omega
  split
  · split
    · rename_i i _; have h1 := pops_cnt (s.2.length - i) s; omega
    · omega
  · omega
theorem foldl_cnt (l : List Tok) : ∀ s : St, cntS (l.foldl stp s) ≤ cntS s + l.length := by
  induction l with
  | nil => intro s; exact Nat.le_refl _
  | cons t l ih => intro s; have := ih (stp s t); have := stp_cnt s t; simp only [List.foldl_cons, List.length_cons]; omega
theorem iv_fin {s : St} (h : Iv s) : ckL [] false (fin s) = 0 ∧ dpL (fin s) ≤ 8 := (iv_pops s.2.length h).2
theorem fin_cnt (s : St) : cntL (fin s) ≤ cntS s := by
  have := pops_cnt s.2.length s
  unfold fin; unfold cntS at *; omega
/-- What is built is right. -/
theorem ckT_ofM (l : List Tok) (h : ckE l = 0) : ckT (ofM l) = 0 := by
  obtain ⟨h1, h2⟩ := ckE_all h
  have hI := iv_fin (iv_foldl l (s := ([], [])) ⟨trivial, rfl, by simp [dpL]⟩ h2)
  have hc := foldl_cnt l ([], [])
  have hf := fin_cnt (l.foldl stp ([], []))
  have hm := many_le (ofM l) 8
  have hd := deep_le (ofM l) 8
  unfold ofM at *
  simp only [cntS, cntL, cntF] at hc hf
  unfold ckT
  rw [if_neg (by omega)]
  exact hI.1
theorem ckE_tok {l : List Tok} (h : ckE l = 0) : ∀ t ∈ l, TOk t := fun t ht => (tkE_zero ((ckE_all h).2 t ht)).1
/-- The innermost of what stands open within no wall is there. -/
theorem ins_no (l : List Nd) : ∀ (r : List Nm) (b : Bool), ckL r b l = 0 → insL (abv sP wallN r).isSome (abv sLi ulolN r).isSome l = false := by
  induction l using Nd.ind with
  | h0 => intro r b _; rfl
  | h1 n a x k l ik il =>
    intro r b hc
    obtain ⟨h1, h2⟩ := ckL_cons hc
    obtain ⟨h3, h4, h5⟩ := ckN_mk h1
    have i1 := il r _ h2
    have i2 := ik (n :: r) false h5
    simp only [insL, insN, i1, Bool.or_false]
    have hp : ∀ (m : Nm) (st : Nm → Bool), (abv m st (n :: r)).isSome = (decide (n = m) || (!st n && (abv m st r).isSome)) := by
      intro m st
      simp only [abv]
      by_cases e : n = m
      · simp [e]
      · rw [if_neg e]
        cases st n <;> simp [e]
    rw [hp, hp] at i2
    by_cases hn : n = []
    · subst hn
      obtain ⟨g1, rfl, rfl⟩ := ndE_tx h3
      simp [insL, sP, sLi]
    · obtain ⟨rfl, g2, g3, g4, g5⟩ := ndE_el h3 hn
      have a1 : n = sP → (abv sP wallN r).isSome = false := by
        rintro rfl; rw [cls_p_none g5]; rfl
      have a2 : n = sLi → (abv sLi ulolN r).isSome = false := by
        rintro rfl
        have e1 := cls1_full g5
        unfold cls at g5
        rw [if_pos rfl, e1, Nat.sub_self, List.drop_zero] at g5
        cases e : abv sLi ulolN r with
        | none => rfl
        | some i => have := abv_lt _ _ _ _ e; rw [e] at g5; simp at g5; omega
      have b1 : (decide (n = sP) && (abv sP wallN r).isSome || decide (n = sLi) && (abv sLi ulolN r).isSome) = false := by
        by_cases c1 : n = sP
        · have c2 : ¬ n = sLi := by rw [c1]; decide
          simp [a1 c1, c2]
        · by_cases c2 : n = sLi
          · simp [a2 c2, c1]
          · simp [c1, c2]
      rw [b1, Bool.false_or]
      have c1 : (decide (n = sP) || (!wallN n && (abv sP wallN r).isSome)) = (!(ulolN n || decide (n = sLi) || decide (n = sBq)) && ((abv sP wallN r).isSome || decide (n = sP))) := by
        have : wallN n = (ulolN n || decide (n = sLi) || decide (n = sBq)) := by simp [wallN, ulolN]
        rw [this]
        by_cases c : n = sP
        · subst c; simp [ulolN, sP, sUl, sOl, sLi, sBq]
        · simp [c]
      have c2 : (decide (n = sLi) || (!ulolN n && (abv sLi ulolN r).isSome)) = (!ulolN n && ((abv sLi ulolN r).isSome || decide (n = sLi))) := by
        by_cases c : n = sLi
        · subst c; simp [ulolN, sUl, sOl, sLi]
        · simp [c]
      rw [c1, c2] at i2
      exact i2
/-- No p in a p, no li in a li. -/
theorem ins_ofM (l : List Tok) (h : ckE l = 0) : insL false false (ofM l) = false := by
  have := ins_no (ofM l) [] false (ckT_zero (ckT_ofM l h)).2.2
  exact this

theorem ntx_app (l m : List Nd) : ntxL (l ++ m) = ntxL l ++ ntxL m := by
  induction l with
  | nil => simp [ntxL]
  | cons d l ih => simp [ntxL, ih]
/-- Texts of nodes have no kids, to any depth. -/
def Lf (l : List Nd) : Prop := ∀ d ∈ l, d.n = [] → d.k = []
theorem ntx_pt (l : List Nd) (d : Nd) (hl : Lf l) (hd : d.n = [] → d.k = []) : ntxL (pt l d) = ntxL l ++ ntxN d ∧ Lf (pt l d) := by
  have happ : ntxL (l ++ [d]) = ntxL l ++ ntxN d ∧ Lf (l ++ [d]) := by
    refine ⟨by simp [ntx_app, ntxL], fun c hc => ?_⟩
    rcases List.mem_append.1 hc with hc | hc
    · exact hl c hc
    · rw [List.mem_singleton] at hc; subst hc; exact hd
  unfold pt
  split
  · rename_i a x k e
    split
    · rename_i hn
      rcases List.eq_nil_or_concat l with rfl | ⟨o, c, rfl⟩
      · simp at e
      · simp only [List.concat_eq_append, List.getLast?_append, List.getLast?_singleton, Option.some_or, Option.some.injEq, List.dropLast_concat] at *
        subst e
        have hk : k = [] := hl (.mk [] a x k) (by simp) rfl
        subst hk
        have h2 := hd hn
        cases d with
        | mk n' a' x' k' =>
          simp only [Nd.k] at h2
          subst h2
          refine ⟨by simp [ntx_app, ntxL, ntxN, Nd.x], fun c hc => ?_⟩
          rcases List.mem_append.1 hc with hc | hc
          · exact hl c (List.mem_append_left _ hc)
          · rw [List.mem_singleton] at hc; subst hc; intro _; rfl
    · exact happ
  · exact happ
def ntxF : List (Nm × List Atr × List Nd) → List UInt8
  | [] => []
  | (_, _, k) :: f => ntxF f ++ ntxL k
def ntxS (s : St) : List UInt8 := ntxL s.1 ++ ntxF s.2
def LfF : List (Nm × List Atr × List Nd) → Prop
  | [] => True
  | (n, _, k) :: f => n ≠ [] ∧ Lf k ∧ LfF f
def LfS (s : St) : Prop := Lf s.1 ∧ LfF s.2
theorem put_txt {s : St} {d : Nd} (h : LfS s) (hd : d.n = [] → d.k = []) : ntxS (put s d) = ntxS s ++ ntxN d ∧ LfS (put s d) := by
  obtain ⟨r, f⟩ := s
  cases f with
  | nil =>
    obtain ⟨e, g⟩ := ntx_pt r d h.1 hd
    exact ⟨by simp [put, ntxS, ntxF, e], g, trivial⟩
  | cons c f =>
    obtain ⟨n, a, k⟩ := c
    obtain ⟨e, g⟩ := ntx_pt k d h.2.2.1 hd
    exact ⟨by simp [put, ntxS, ntxF, e], h.1, h.2.1, g, h.2.2.2⟩
theorem pop_txt {s : St} (h : LfS s) : ntxS (pop s) = ntxS s ∧ LfS (pop s) := by
  obtain ⟨r, f⟩ := s
  cases f with
  | nil => exact ⟨rfl, h⟩
  | cons c f =>
    obtain ⟨n, a, k⟩ := c
    obtain ⟨e, g⟩ := put_txt (s := (r, f)) (d := .mk n a [] k) ⟨h.1, h.2.2.2⟩ (fun e => absurd e h.2.1)
    refine ⟨?_, g⟩
    rw [show pop (r, (n, a, k) :: f) = put (r, f) (.mk n a [] k) from rfl, e]
    simp [ntxS, ntxF, ntxN]
theorem pops_txt (j : Nat) : ∀ {s : St}, LfS s → ntxS (pops j s) = ntxS s ∧ LfS (pops j s) := by
  induction j with
  | zero => intro s h; exact ⟨rfl, h⟩
  | succ j ih =>
    intro s h
    obtain ⟨e1, g1⟩ := pop_txt h
    obtain ⟨e2, g2⟩ := ih g1
    exact ⟨by rw [pops_succ, e2, e1], g2⟩
theorem stp_txt {s : St} {t : Tok} (h : LfS s) (ht : tkE t = 0) : ntxS (stp s t) = ntxS s ++ t.2.2.2 ∧ LfS (stp s t) := by
  obtain ⟨hk, h1, h2⟩ := tkE_zero ht
  unfold stp
  by_cases e1 : t.1 = 1
  · rw [if_pos e1]
    obtain ⟨e, g⟩ := put_txt (d := .mk [] [] t.2.2.2 []) h (fun _ => rfl)
    exact ⟨by rw [e]; simp [ntxN, ntxL], g⟩
  rw [if_neg e1]
  obtain ⟨g1, g2, g3, g4⟩ := h2 e1
  rw [g1, List.append_nil]
  by_cases e2 : t.1 = 2
  · rw [if_pos e2]
    obtain ⟨e, g⟩ := pops_txt (s.2.length - cls (nms s) t.2.1) h
    unfold opn
    split
    · exact ⟨e, g⟩
    split
    · obtain ⟨e', g'⟩ := put_txt (d := .mk t.2.1 t.2.2.1 [] []) g (fun _ => rfl)
      exact ⟨by rw [e', e]; simp [ntxN, ntxL], g'⟩
    · exact ⟨by rw [← e]; simp [ntxS, ntxF, ntxL], g.1, g3, fun c hc => by simp at hc, g.2⟩
  rw [if_neg e2]
  split
  · split
    · exact pops_txt _ h
    · exact ⟨rfl, h⟩
  · exact ⟨rfl, h⟩
theorem foldl_txt (l : List Tok) : ∀ {s : St}, LfS s → (∀ t ∈ l, tkE t = 0) → ntxS (l.foldl stp s) = ntxS s ++ l.flatMap (·.2.2.2) ∧ LfS (l.foldl stp s) := by
  induction l with
  | nil => intro s h _; exact ⟨by simp, h⟩
  | cons t l ih =>
    intro s h ht
    obtain ⟨e1, g1⟩ := stp_txt h (ht t (by simp))
    obtain ⟨e2, g2⟩ := ih g1 (fun u hu => ht u (by simp [hu]))
    exact ⟨by rw [List.foldl_cons, e2, e1]; simp, g2⟩
/-- No text is lost. -/
theorem txt_ofM (l : List Tok) (h : ckE l = 0) : ntxL (ofM l) = l.flatMap (·.2.2.2) := by
  obtain ⟨e, g⟩ := foldl_txt l (s := ([], [])) ⟨fun c hc => by simp at hc, trivial⟩ (ckE_all h).2
  obtain ⟨e2, g2⟩ := pops_txt (l.foldl stp ([], [])).2.length g
  have h0 : (pops (l.foldl stp ([], [])).2.length (l.foldl stp ([], []))).2 = [] := List.eq_nil_of_length_eq_zero (by rw [pops_len]; simp)
  unfold ofM fin
  rw [e] at e2
  unfold ntxS at e2
  rw [h0] at e2
  simpa [ntxF, ntxL] using e2
theorem sameL_iff (l : List Nd) : ∀ m, sameL l m = true ↔ l = m := by
  induction l using Nd.ind with
  | h0 => intro m; cases m <;> simp [sameL]
  | h1 n a x k l ik il =>
    intro m
    cases m with
    | nil => simp [sameL]
    | cons d m =>
      cases d with
      | mk n' a' x' k' =>
        simp only [sameL, sameN, Bool.and_eq_true, decide_eq_true_eq, ik, il, List.cons.injEq, Nd.mk.injEq]
        constructor
        · rintro ⟨⟨⟨⟨h1, h2⟩, h3⟩, h4⟩, h5⟩; exact ⟨⟨h1, h3, h2, h4⟩, h5⟩
        · rintro ⟨⟨h1, h3, h2, h4⟩, h5⟩; exact ⟨⟨⟨⟨h1, h2⟩, h3⟩, h4⟩, h5⟩
theorem sameL_self (l : List Nd) : sameL l l = true := (sameL_iff l l).2 rfl
end Go.Proofs.YtjclpmpphkmpdaaGreatDoor

namespace Go.Proofs.YtjclpmpphkmpdaaGreatDoor
open Go.RowKit

def exN (f : Nat) (d : Nd) : Nat := if d.n = [] then 0 else match f with | 0 => 0 | f + 1 => manyL f d.k
def exL (f : Nat) (l : List Nd) : Nat := (l.map (exN f)).sum
theorem many_ex (f : Nat) (l : List Nd) : manyL f l = l.length + exL f l := by
  induction l with
  | nil => rfl
  | cons d l ih =>
    cases d with
    | mk n a x k =>
      have h : manyN f (.mk n a x k) = 1 + exN f (.mk n a x k) := by
        by_cases hn : n = [] <;> cases f <;> simp [manyN, exN, Nd.n, Nd.k, hn]
      simp only [manyL, h, ih, exL, List.map_cons, List.sum_cons, List.length_cons]; omega
theorem exL_snoc (f : Nat) (l : List Nd) (d : Nd) : exL f (l ++ [d]) = exL f l + exN f d := by simp [exL]
theorem deep_app (f : Nat) (l m : List Nd) : deepL f (l ++ m) = max (deepL f l) (deepL f m) := by
  induction l with
  | nil => simp [deepL]
  | cons d l ih => simp only [List.cons_append, deepL, ih]; omega
theorem deep_bd (l : List Nd) : ∀ f, deepL f l ≤ f + 1 := by
  induction l using Nd.ind with
  | h0 => intro f; simp [deepL]
  | h1 n a x k l ik il =>
    intro f
    have := il f
    simp only [deepL, deepN]
    by_cases hn : n = []
    · rw [if_pos hn]; omega
    · rw [if_neg hn]
      cases f with
      | zero => simp only []; omega
      | succ f => have := ik f; simp only []; omega
def dpE (f : Nat) (d : Nd) : Nat := if d.n = [] then 0 else match f with | 0 => 1 | f + 1 => 1 + deepL f d.k
theorem deep_snoc (f : Nat) (l : List Nd) (d : Nd) : deepL f (l ++ [d]) = max (deepL f l) (dpE f d) := by
  rw [deep_app]
  cases d with
  | mk n a x k => by_cases hn : n = [] <;> cases f <;> simp [deepL, deepN, dpE, Nd.n, Nd.k, hn]
theorem cnt_get : ∀ (l : List Nd) (i : Nat) (h : i < l.length), 1 + cntL l[i].k ≤ cntL l := by
  intro l
  induction l with
  | nil => intro i h; simp at h
  | cons d l ih =>
    intro i h
    cases d with
    | mk n a x k =>
      cases i with
      | zero => simp only [List.getElem_cons_zero, Nd.k, cntL, cntN]; omega
      | succ i => have := ih i (by simpa using h); simp only [List.getElem_cons_succ, cntL, cntN]; omega
theorem cnt_len (l : List Nd) : l.length ≤ cntL l := by
  induction l with
  | nil => simp [cntL]
  | cons d l ih => cases d with
    | mk n a x k => simp only [List.length_cons, cntL, cntN]; omega
set_option maxRecDepth 100000 in
set_option maxHeartbeats 2000000 in
theorem size_c (f : Nat) : ∀ (l : List Nd) (v : Value) (P : Nat → Prop) (w : World), cntL l ≤ 100000000 → f ≤ 100 → NdS w P v l →
    Calls Tryz.prog 31 #[v, .int .i64 f] w fun e w' => e = .returned (.tuple #[.int .i64 (manyL f l : Nat), .int .i64 (deepL f l : Nat)]) ∧ Bl w w' := by
  induction f with
  | zero =>
    intro l v P w hc hf hN
    obtain ⟨ao, cap, rfl, hcap, hN⟩ := hN.get
    have hlen := cnt_len l
    have HN := Lib.hid hN
    have HC := Lib.hid hc
    clear hN
    rw [show ((0 : Nat) : Int) = 0 from rfl]
    go_enter Tryz.func31, Tryz.ntmps31
    go_wp2
    go_loopw [6, 7, 16] (fun m d i wr => ∃ k : Nat, k ≤ l.length ∧ i = .int .i64 k ∧ m = .int .i64 ((l.length + exL 0 (l.take k) : Nat) : Int) ∧ d = .int .i64 ((deepL 0 (l.take k) : Nat) : Int) ∧ Bl w wr) (fun _ _ i _ => l.length - (intOf i).toNat)
    case atStart => exact ⟨0, Nat.zero_le _, rfl, by simp [exL], by simp [deepL], Bl.refl _⟩
    case round =>
      obtain ⟨k, hk, rfl, rfl, rfl, hb⟩ := hrel
      have hd1 := deep_bd (l.take k) 0
      by_cases hlt : k < l.length
      · obtain ⟨g, o, va, vk, rfl, hg, -, h1, h2, h3, h4, h5, h6⟩ := HN.out k hlt
        have y1 := (hb.cells.1 g _ hg).trans h1
        have y2 := (hb.cells.1 g _ hg).trans h2
        have y3 := (hb.cells.1 g _ hg).trans h3
        have y4 := (hb.cells.1 g _ hg).trans h4
        have hgk := cnt_get l k hlt
        have HK := Lib.hid (h6.of_bl hb)
        obtain ⟨a1, n1, c1, rfl⟩ : ∃ a n c, va = .slice a n c := by obtain ⟨a, c, e, -⟩ := h5; exact ⟨a, _, c, e⟩
        obtain ⟨a2, c2, rfl⟩ : ∃ a c, vk = .slice a l[k].k.length c := by obtain ⟨a, c, e, -⟩ := h6; exact ⟨a, c, e⟩
        have HE := Lib.hid (show exL 0 (l.take (k + 1)) = exL 0 (l.take k) + exN 0 l[k] by rw [take_snoc l k hlt, exL_snoc])
        have HD := Lib.hid (show deepL 0 (l.take (k + 1)) = max (deepL 0 (l.take k)) (dpE 0 l[k]) by rw [take_snoc l k hlt, deep_snoc])
        have hm1 : l.length + exL 0 (l.take k) ≤ 100000000 := by
          have h7 := many_ex 0 (l.take k)
          have h8 := many_le (l.take k) 0
          have h9 : cntL l = cntL (l.take k) + cntL (l.drop k) := by rw [← cnt_app, List.take_append_drop]
          have h10 := cnt_len (l.drop k)
          simp only [List.length_take, List.length_drop] at h7 h10
          have := HC.out
          omega
        clear h1 h2 h3 h4 h5 h6
        by_cases hn : l[k].n = []
        · have hne : l[k].n = [] := hn
          have E1 := Lib.hid (show exN 0 l[k] = 0 by unfold exN; rw [if_pos hn])
          have D1 := Lib.hid (show dpE 0 l[k] = 0 by unfold dpE; rw [if_pos hn])
          clear hn
          go_wp2
          go_roundw
          case rel => exact ⟨k + 1, by omega, by go_num, by rw [HE.out, E1.out]; rfl, by rw [HD.out, D1.out, Nat.max_eq_left (Nat.zero_le _)], hb.alloc _⟩
          case measure => simp [intOf]; omega
        · have hne : l[k].n.isEmpty = false := by cases e : l[k].n <;> simp_all
          have E1 := Lib.hid (show exN 0 l[k] = 0 by unfold exN; rw [if_neg hn])
          have D1 := Lib.hid (show dpE 0 l[k] = 1 by unfold dpE; rw [if_neg hn])
          clear hn
          go_wp2
          go_roundw
          case rel =>
            refine ⟨k + 1, by omega, by go_num, by rw [HE.out, E1.out]; rfl, ?_, hb.alloc _⟩
            rw [HD.out, D1.out]
            go_num
          case measure => simp [intOf]; omega
      · have HE := Lib.hid (show l.take k = l from List.take_of_length_le (by omega))
        have HM := Lib.hid (many_ex 0 l)
        go_wp2
        go_ret2
        exact ⟨by rw [HE.out, ← HM.out]; rfl, hb⟩
  | succ f ih =>
    intro l v P w hc hf hN
    obtain ⟨ao, cap, rfl, hcap, hN⟩ := hN.get
    have hlen := cnt_len l
    have HN := Lib.hid hN
    have IH := Lib.hid ih
    have HC := Lib.hid hc
    clear hN ih
    rw [show ((f + 1 : Nat) : Int) = (f : Int) + 1 by omega]
    go_enter Tryz.func31, Tryz.ntmps31
    go_wp2
    go_loopw [6, 7, 16] (fun m d i wr => ∃ k : Nat, k ≤ l.length ∧ i = .int .i64 k ∧ m = .int .i64 ((l.length + exL (f + 1) (l.take k) : Nat) : Int) ∧ d = .int .i64 ((deepL (f + 1) (l.take k) : Nat) : Int) ∧ Bl w wr) (fun _ _ i _ => l.length - (intOf i).toNat)
    case atStart => exact ⟨0, Nat.zero_le _, rfl, by simp [exL], by simp [deepL], Bl.refl _⟩
    case round =>
      obtain ⟨k, hk, rfl, rfl, rfl, hb⟩ := hrel
      have hd1 := deep_bd (l.take k) (f + 1)
      by_cases hlt : k < l.length
      · obtain ⟨g, o, va, vk, rfl, hg, -, h1, h2, h3, h4, h5, h6⟩ := HN.out k hlt
        have y1 := (hb.cells.1 g _ hg).trans h1
        have y2 := (hb.cells.1 g _ hg).trans h2
        have y3 := (hb.cells.1 g _ hg).trans h3
        have y4 := (hb.cells.1 g _ hg).trans h4
        have hgk := cnt_get l k hlt
        have HK := Lib.hid (h6.of_bl hb)
        obtain ⟨a1, n1, c1, rfl⟩ : ∃ a n c, va = .slice a n c := by obtain ⟨a, c, e, -⟩ := h5; exact ⟨a, _, c, e⟩
        obtain ⟨a2, c2, rfl⟩ : ∃ a c, vk = .slice a l[k].k.length c := by obtain ⟨a, c, e, -⟩ := h6; exact ⟨a, c, e⟩
        have HE := Lib.hid (show exL (f + 1) (l.take (k + 1)) = exL (f + 1) (l.take k) + exN (f + 1) l[k] by rw [take_snoc l k hlt, exL_snoc])
        have HD := Lib.hid (show deepL (f + 1) (l.take (k + 1)) = max (deepL (f + 1) (l.take k)) (dpE (f + 1) l[k]) by rw [take_snoc l k hlt, deep_snoc])
        have hm1 : l.length + exL (f + 1) (l.take k) ≤ 100000000 := by
          have h7 := many_ex (f + 1) (l.take k)
          have h8 := many_le (l.take k) (f + 1)
          have h9 : cntL l = cntL (l.take k) + cntL (l.drop k) := by rw [← cnt_app, List.take_append_drop]
          have h10 := cnt_len (l.drop k)
          simp only [List.length_take, List.length_drop] at h7 h10
          have := HC.out
          omega
        clear h1 h2 h3 h4 h5 h6
        by_cases hn : l[k].n = []
        · have hne : l[k].n = [] := hn
          have E1 := Lib.hid (show exN (f + 1) l[k] = 0 by unfold exN; rw [if_pos hn])
          have D1 := Lib.hid (show dpE (f + 1) l[k] = 0 by unfold dpE; rw [if_pos hn])
          clear hn
          go_wp2
          go_roundw
          case rel => exact ⟨k + 1, by omega, by go_num, by rw [HE.out, E1.out]; rfl, by rw [HD.out, D1.out, Nat.max_eq_left (Nat.zero_le _)], hb.alloc _⟩
          case measure => simp [intOf]; omega
        · have hne : l[k].n.isEmpty = false := by cases e : l[k].n <;> simp_all
          have E1 := Lib.hid (show exN (f + 1) l[k] = manyL f l[k].k by unfold exN; rw [if_neg hn])
          have D1 := Lib.hid (show dpE (f + 1) l[k] = 1 + deepL f l[k].k by unfold dpE; rw [if_neg hn])
          have SC := Lib.hid (fun (W : World) (hbW : Bl wr W) => IH.out l[k].k _ P W (by have := HC.out; omega) (by omega) (HK.out.of_bl hbW))
          have hf2 : (((f : Int) + 1) == 0) = false := by simp <;> omega
          have hmb : manyL f l[k].k ≤ 100000000 := by have := many_le l[k].k f; have := HC.out; omega
          have hdb := deep_bd l[k].k f
          clear hn
          go_wp2_with (go_at_call 31; (with_reducible refine (SC.out _ ((Bl.refl _).alloc _)).mono ?_); rintro e w2 ⟨rfl, hb2⟩)
          go_roundw
          case rel =>
            refine ⟨k + 1, by omega, by go_num, by rw [HE.out, E1.out]; go_num, ?_, Bl.trans (hb.alloc _) hb2⟩
            rw [HD.out, D1.out]
            go_num
          case measure => simp [intOf]; omega
      · have HE := Lib.hid (show l.take k = l from List.take_of_length_le (by omega))
        have HM := Lib.hid (many_ex (f + 1) l)
        go_wp2
        go_ret2
        exact ⟨by rw [HE.out, ← HM.out]; rfl, hb⟩
end Go.Proofs.YtjclpmpphkmpdaaGreatDoor

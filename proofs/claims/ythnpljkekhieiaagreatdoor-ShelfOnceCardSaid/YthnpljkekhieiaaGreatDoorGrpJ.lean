/- Tokens that are handed in: what the row's reading gives. · Trees: what building, checking and flattening answer, said by plain functions; plain laws. · Trees: plain laws: what is built is right; built of its own tokens it is the same; walls; texts. · Shelves: what checking and keeping answer, said by plain functions. · Links: small letters; the first of some bytes, whatever the bytes are. -/
import Derived.Test.YthnpljkekhieiaaGreatDoorTokBy
import Derived.Test.YthnpljkekhieiaaGreatDoorRows
import Derived.Lib.SmallJoins
import Derived.Test.YthnpljkekhieiaaGreatDoorGrpD
import Derived.Lib.Bytealg
import Derived.Shelf.Spec.SearchS
import Derived.Test.YthnpljkekhieiaaGreatDoorGrpF
import Derived.Test.YthnpljkekhieiaaGreatDoorShelf
import Derived.Lib.OthersKept
import Derived.Lib.TrimU
import Derived.Lib.FieldsU
namespace Go.Proofs.YthnpljkekhieiaaGreatDoor
open Go.RowKit Go.ChangeShapes Go.WideShapes Go.ChangeAt Go.WideElems

section
variable {H : Type} {enc : TypeId × Value → H} {w : World} {sp : Nat → Bool} {held : Bool}
theorem cells_get {a : Addr} {n : Nat} {c : List Value} (h : w.cells? 0 a n = some c) : c.length = n ∧ ∀ i, i < n → w.cell? (a.add i) = c[i]? := by
  unfold World.cells? at h
  rw [if_pos (Nat.zero_le _)] at h
  refine ⟨by simpa using mapM_some_length h, fun i hi => mapM_some_get h i i (by simp [hi])⟩
theorem list_of {α : Type} {Q : Nat → α → Prop} (n : Nat) (h : ∀ i, i < n → ∃ a, Q i a) : ∃ l : List α, l.length = n ∧ ∀ i (hi : i < l.length), Q i l[i] := by
  induction n with
  | zero => exact ⟨[], rfl, fun i hi => absurd hi (by simp)⟩
  | succ n ih =>
    obtain ⟨l, hl, hq⟩ := ih (fun i hi => h i (by omega))
    obtain ⟨a, ha⟩ := h n (by omega)
    refine ⟨l ++ [a], by simp [hl], fun i hi => ?_⟩
    simp only [List.length_append, List.length_singleton] at hi
    by_cases h2 : i < l.length
    · rw [List.getElem_append_left h2]; exact hq i h2
    · have : i = l.length := by omega
      subst this
      simpa [hl] using ha
theorem add_at {a : Addr} (h : a.spot = none) (k : Nat) : a.add k = ⟨a.block, a.off + k, none⟩ := by
  obtain ⟨b, o, s⟩ := a
  subst h
  unfold Addr.add
  split <;> simp_all
theorem cell_lt {a : Addr} {v : Value} (h : w.cell? a = some v) : a.block < w.heap.size := by
  rcases Nat.lt_or_ge a.block w.heap.size with h1 | h1
  · exact h1
  · simp [World.cell?, Array.getElem?_eq_none h1] at h
end
end Go.Proofs.YthnpljkekhieiaaGreatDoor

namespace Go.Proofs.YthnpljkekhieiaaGreatDoor
open Go.RowKit

theorem isNm_ne {n : List UInt8} (h : isNm n = true) : n ≠ [] := by rintro rfl; simp [isNm] at h
/-- A node: its name (a text has none), attributes, text, kids. -/
inductive Nd where
  | mk (n : List UInt8) (a : List Atr) (x : List UInt8) (k : List Nd)
def Nd.n : Nd → List UInt8 | .mk n _ _ _ => n
def Nd.a : Nd → List Atr | .mk _ a _ _ => a
def Nd.x : Nd → List UInt8 | .mk _ _ x _ => x
def Nd.k : Nd → List Nd | .mk _ _ _ k => k
theorem Nd.ind {P : List Nd → Prop} (h0 : P []) (h1 : ∀ n a x k l, P k → P l → P (.mk n a x k :: l)) (l : List Nd) : P l :=
  Nd.rec_1 (motive_1 := fun d => P d.k) (motive_2 := P) (fun _ _ _ _ ih => ih) h0 (fun d l i1 i2 => by cases d; exact h1 _ _ _ _ _ i1 i2) l

abbrev Nm := List UInt8
def sP : Nm := [112]
def sLi : Nm := [108, 105]
def sUl : Nm := [117, 108]
def sOl : Nm := [111, 108]
def sBq : Nm := [98, 108, 111, 99, 107, 113, 117, 111, 116, 101]
def sBr : Nm := [98, 114]
def sHr : Nm := [104, 114]
def sImg : Nm := [105, 109, 103]
def emptyN (n : Nm) : Bool := decide (n = sBr) || decide (n = sHr) || decide (n = sImg)
def ulolN (n : Nm) : Bool := decide (n = sUl) || decide (n = sOl)
def wallN (n : Nm) : Bool := decide (n = sUl) || decide (n = sOl) || decide (n = sLi) || decide (n = sBq)
def blkN (n : Nm) : Bool := wallN n || decide (n = sP) || decide (n = sHr)
/-- Of names that stand in one another, the innermost first: how many stand about the innermost one of a name with none within it that stops. -/
def abv (nm : Nm) (stop : Nm → Bool) : List Nm → Option Nat
  | [] => none
  | x :: r => if x = nm then some r.length else if stop x then none else abv nm stop r
def cls1 (r : List Nm) (nm : Nm) : Nat := if blkN nm then (abv sP wallN r).getD r.length else r.length
/-- How many stay open where one opens. -/
def cls (r : List Nm) (nm : Nm) : Nat := if nm = sLi then (abv sLi ulolN (r.drop (r.length - cls1 r nm))).getD (cls1 r nm) else cls1 r nm

/-- A node behind others; texts side by side are one. -/
def pt (l : List Nd) (d : Nd) : List Nd :=
  match l.getLast? with
  | some (.mk [] a x k) => if d.n = [] then l.dropLast ++ [.mk [] a (x ++ d.x) k] else l ++ [d]
  | _ => l ++ [d]

/-- The builder: nodes of the whole; those that are open, the innermost first: name, attributes, nodes. -/
abbrev St := List Nd × List (Nm × List Atr × List Nd)
def put (s : St) (d : Nd) : St := match s with
  | (r, []) => (pt r d, [])
  | (r, (n, a, k) :: f) => (r, (n, a, pt k d) :: f)
def pop (s : St) : St := match s with
  | (r, []) => (r, [])
  | (r, (n, a, k) :: f) => put (r, f) (.mk n a [] k)
def pops : Nat → St → St
  | 0, s => s
  | j + 1, s => pops j (pop s)
def nms (s : St) : List Nm := s.2.map (·.1)
def opn (s : St) (n : Nm) (a : List Atr) : St :=
  if s.2.length = 8 then s else if emptyN n then put s (.mk n a [] []) else (s.1, (n, a, []) :: s.2)
def stp (s : St) (t : Tok) : St :=
  if t.1 = 1 then put s (.mk [] [] t.2.2.2 [])
  else if t.1 = 2 then opn (pops (s.2.length - cls (nms s) t.2.1) s) t.2.1 t.2.2.1
  else if t.1 = 3 then (match abv t.2.1 (fun _ => false) (nms s) with | some i => pops (s.2.length - i) s | none => s)
  else s
def fin (s : St) : List Nd := (pops s.2.length s).1
/-- The tree of tokens. -/
def ofM (l : List Tok) : List Nd := fin (l.foldl stp ([], []))

mutual
def fltN : Nd → List Tok
  | .mk n a x k => if n = [] then [(1, [], [], x)] else (2, n, a, []) :: (if emptyN n then [] else fltL k ++ [(3, n, [], [])])
/-- The tokens of a tree. -/
def fltL : List Nd → List Tok
  | [] => []
  | d :: l => fltN d ++ fltL l
end
/-- What is wrong with a node by itself. -/
def ndE (r : List Nm) : Nd → Int
  | .mk n a x k => if n = [] then (if x = [] ∨ a ≠ [] ∨ k ≠ [] then 1 else 0)
    else if x ≠ [] ∨ isNm n = false ∨ (emptyN n = true ∧ k ≠ []) then 1 else if atE a ≠ 0 then atE a else if cls r n < r.length then 4 else 0
mutual
def ckN (r : List Nm) (prev : Bool) : Nd → Int
  | .mk n a x k => if ndE r (.mk n a x k) ≠ 0 then ndE r (.mk n a x k) else if prev = true ∧ n = [] then 4 else ckL (n :: r) false k
/-- What is wrong with nodes that stand in such names. -/
def ckL (r : List Nm) (prev : Bool) : List Nd → Int
  | [] => 0
  | d :: l => if ckN r prev d ≠ 0 then ckN r prev d else ckL r (decide (d.n = [])) l
end
mutual
def ntxN : Nd → List UInt8
  | .mk _ _ x k => x ++ ntxL k
def ntxL : List Nd → List UInt8
  | [] => []
  | d :: l => ntxN d ++ ntxL l
end
theorem pops_zero (s : St) : pops 0 s = s := rfl
theorem pops_succ (j : Nat) (s : St) : pops (j + 1) s = pops j (pop s) := rfl
theorem put_len (s : St) (d : Nd) : (put s d).2.length = s.2.length := by
  unfold put; split <;> simp
theorem put_nms (s : St) (d : Nd) : nms (put s d) = nms s := by
  unfold put nms; split <;> simp
theorem pop_nms (s : St) : nms (pop s) = (nms s).drop 1 := by
  unfold pop
  split
  · rfl
  · rw [put_nms]; simp [nms]
theorem pops_nms (j : Nat) : ∀ s : St, nms (pops j s) = (nms s).drop j := by
  induction j with
  | zero => intro s; rfl
  | succ j ih => intro s; rw [pops_succ, ih, pop_nms, List.drop_drop, Nat.add_comm]
theorem nms_len (s : St) : (nms s).length = s.2.length := by simp [nms]
theorem pops_add (i j : Nat) : ∀ s : St, pops (i + j) s = pops j (pops i s) := by
  induction i with
  | zero => intro s; simp [pops_zero]
  | succ i ih => intro s; rw [Nat.succ_add, pops_succ, pops_succ, ih]
theorem pops_len (j : Nat) (s : St) : (pops j s).2.length = s.2.length - j := by
  rw [← nms_len, pops_nms, List.length_drop, nms_len]
theorem pt_el (o : List Nd) (d : Nd) (h : d.n ≠ []) : pt o d = o ++ [d] := by
  unfold pt
  split
  · rw [if_neg h]
  · rfl
theorem abv_lt (nm : Nm) (stop : Nm → Bool) : ∀ (r : List Nm) (i : Nat), abv nm stop r = some i → i < r.length := by
  intro r
  induction r with
  | nil => intro i h; simp [abv] at h
  | cons x r ih =>
    intro i h
    unfold abv at h
    split at h
    · cases h; simp
    · split at h
      · cases h
      · have := ih i h; simp; omega
/-- What stands inside the one that is found: it is that name, and no more. -/
theorem abv_drop (nm : Nm) (stop : Nm → Bool) : ∀ (r : List Nm) (i : Nat), abv nm stop r = some i → ∃ p, r = p ++ nm :: r.drop (r.length - i) := by
  intro r
  induction r with
  | nil => intro i h; simp [abv] at h
  | cons x r ih =>
    intro i h
    have hlt := abv_lt nm stop _ i h
    unfold abv at h
    split at h
    · rename_i e; subst e
      cases h
      refine ⟨[], ?_⟩
      rw [List.length_cons, Nat.add_sub_cancel_left]; rfl
    · split at h
      · cases h
      · obtain ⟨p, hp⟩ := ih i h
        have h2 := abv_lt nm stop _ i h
        refine ⟨x :: p, ?_⟩
        rw [List.length_cons, show r.length + 1 - i = (r.length - i) + 1 by omega, List.drop_succ_cons, List.cons_append, ← hp]
theorem cls1_le (r : List Nm) (nm : Nm) : cls1 r nm ≤ r.length := by
  unfold cls1
  split
  · cases e : abv sP wallN r with
    | none => simp
    | some i => have := abv_lt _ _ _ _ e; simp; omega
  · exact Nat.le_refl _
theorem cls_le1 (r : List Nm) (nm : Nm) : cls r nm ≤ cls1 r nm := by
  unfold cls
  split
  · cases e : abv sLi ulolN (r.drop (r.length - cls1 r nm)) with
    | none => simp
    | some i => have := abv_lt _ _ _ _ e; have := cls1_le r nm; simp at *; omega
  · exact Nat.le_refl _
theorem cls_le (r : List Nm) (nm : Nm) : cls r nm ≤ r.length := Nat.le_trans (cls_le1 r nm) (cls1_le r nm)
/-- Names that may stand in one another. -/
def Good : List Nm → Prop
  | [] => True
  | n :: r => cls r n = r.length ∧ Good r
theorem Good.drop {r : List Nm} (h : Good r) (j : Nat) : Good (r.drop j) := by
  induction r generalizing j with
  | nil => simp [Good]
  | cons x r ih =>
    cases j with
    | zero => exact h
    | succ j => exact ih h.2 j
theorem Good.mid {p r : List Nm} {n : Nm} (h : Good (p ++ n :: r)) : cls r n = r.length := by
  have := h.drop p.length
  rw [List.drop_left] at this
  exact this.1
theorem cls_p_none {r : List Nm} (h : cls r sP = r.length) : abv sP wallN r = none := by
  cases e : abv sP wallN r with
  | none => rfl
  | some i =>
    have h1 := abv_lt _ _ _ _ e
    have h2 := cls_le1 r sP
    have h3 : cls1 r sP = i := by unfold cls1; rw [e]; simp [blkN]
    omega
theorem cls1_idem (r : List Nm) (nm : Nm) (hg : Good r) : cls1 (r.drop (r.length - cls1 r nm)) nm = cls1 r nm := by
  have hle := cls1_le r nm
  by_cases hb : blkN nm = true
  · cases e : abv sP wallN r with
    | none =>
      have h1 : cls1 r nm = r.length := by unfold cls1; rw [if_pos hb, e]; rfl
      rw [h1, Nat.sub_self, List.drop_zero, h1]
    | some i =>
      have h1 : cls1 r nm = i := by unfold cls1; rw [if_pos hb, e]; rfl
      obtain ⟨p, hp⟩ := abv_drop _ _ _ _ e
      have hi := abv_lt _ _ _ _ e
      rw [h1] at *
      rw [hp] at hg
      have hn := cls_p_none hg.mid
      unfold cls1
      rw [if_pos hb, hn]
      simp; omega
  · have h1 : cls1 r nm = r.length := by unfold cls1; rw [if_neg hb]
    rw [h1, Nat.sub_self, List.drop_zero, h1]
theorem cls_idem (r : List Nm) (nm : Nm) (hg : Good r) : cls (r.drop (r.length - cls r nm)) nm = cls r nm := by
  have hle := cls_le r nm
  have hle1 := cls1_le r nm
  have hid := cls1_idem r nm hg
  by_cases hl : nm = sLi
  · cases e : abv sLi ulolN (r.drop (r.length - cls1 r nm)) with
    | none =>
      have h1 : cls r nm = cls1 r nm := by unfold cls; rw [if_pos hl, e]; rfl
      rw [h1]
      conv => lhs; unfold cls
      rw [if_pos hl, hid]
      have hlen : (r.drop (r.length - cls1 r nm)).length = cls1 r nm := by simp; omega
      rw [hlen, Nat.sub_self, List.drop_zero, e]; rfl
    | some i =>
      have h1 : cls r nm = i := by unfold cls; rw [if_pos hl, e]; rfl
      have hi := abv_lt _ _ _ _ e
      have hlen : (r.drop (r.length - cls1 r nm)).length = cls1 r nm := by simp; omega
      rw [hlen] at hi
      obtain ⟨p, hp⟩ := abv_drop _ _ _ _ e
      rw [hlen, List.drop_drop, show r.length - cls1 r nm + (cls1 r nm - i) = r.length - i by omega] at hp
      have hg1 := hg.drop (r.length - cls1 r nm)
      rw [hp] at hg1
      have := hg1.mid
      rw [h1, hl, this]
      simp; omega
  · have h1 : cls r nm = cls1 r nm := by unfold cls; rw [if_neg hl]
    rw [h1]
    conv => lhs; unfold cls
    rw [if_neg hl, hid]

/-- Tokens that may come. -/
def TOk (t : Tok) : Prop := (t.1 = 1 ∨ t.1 = 2 ∨ t.1 = 3) ∧ (t.1 = 2 → t.2.1 ≠ [])
end Go.Proofs.YthnpljkekhieiaaGreatDoor

namespace Go.Proofs.YthnpljkekhieiaaGreatDoor
open Go.RowKit

mutual
/-- How deep nodes stand. -/
def dpN : Nd → Nat
  | .mk n _ _ k => if n = [] then 0 else 1 + dpL k
def dpL : List Nd → Nat
  | [] => 0
  | d :: l => max (dpN d) (dpL l)
end
mutual
def cntN : Nd → Nat
  | .mk _ _ _ k => 1 + cntL k
def cntL : List Nd → Nat
  | [] => 0
  | d :: l => cntN d + cntL l
end
/-- The last of nodes is a text. -/
def lastT (o : List Nd) : Bool := match o.getLast? with | some d => decide (d.n = []) | none => false
theorem lastT_snoc (o : List Nd) (d : Nd) : lastT (o ++ [d]) = decide (d.n = []) := by simp [lastT]
theorem pt_no (o : List Nd) (d : Nd) (h : lastT o = false) : pt o d = o ++ [d] := by
  unfold pt
  unfold lastT at h
  split
  · rename_i a x k e
    rw [e] at h; simp [Nd.n] at h
  · rfl
theorem ckL_cons {r : List Nm} {p : Bool} {d : Nd} {l : List Nd} (h : ckL r p (d :: l) = 0) : ckN r p d = 0 ∧ ckL r (decide (d.n = [])) l = 0 := by
  simp only [ckL] at h
  split at h
  · rename_i a; exact absurd h a
  · rename_i a; exact ⟨Decidable.not_not.1 a, h⟩
theorem ckN_mk {r : List Nm} {p : Bool} {n : Nm} {a : List Atr} {x : List UInt8} {k : List Nd} (h : ckN r p (.mk n a x k) = 0) : ndE r (.mk n a x k) = 0 ∧ ¬ (p = true ∧ n = []) ∧ ckL (n :: r) false k = 0 := by
  simp only [ckN] at h
  split at h
  · rename_i a; exact absurd h a
  · rename_i a
    split at h
    · simp at h
    · rename_i b; exact ⟨Decidable.not_not.1 a, b, h⟩
theorem ndE_tx {r : List Nm} {a : List Atr} {x : List UInt8} {k : List Nd} (h : ndE r (.mk [] a x k) = 0) : x ≠ [] ∧ a = [] ∧ k = [] := by
  simp only [ndE, if_true] at h
  split at h
  · simp at h
  rename_i h1
  exact ⟨fun e => h1 (.inl e), Decidable.byContradiction fun e => h1 (.inr (.inl e)), Decidable.byContradiction fun e => h1 (.inr (.inr e))⟩
/-- What a builder holds is right. -/
def IvF (m : Nat) : List (Nm × List Atr × List Nd) → Prop
  | [] => True
  | (n, a, k) :: f => n ≠ [] ∧ isNm n = true ∧ emptyN n = false ∧ atE a = 0 ∧ cls (f.map (·.1)) n = f.length ∧ ckL (n :: f.map (·.1)) false k = 0 ∧ f.length + 1 + dpL k ≤ 8 ∧ IvF m f
def Iv (s : St) : Prop := IvF 0 s.2 ∧ ckL [] false s.1 = 0 ∧ dpL s.1 ≤ 8
theorem ckL_app (r : List Nm) : ∀ (l : List Nd) (p : Bool) (m : List Nd), ckL r p l = 0 → ckL r (if l = [] then p else lastT l) m = 0 → ckL r p (l ++ m) = 0 := by
  intro l
  induction l with
  | nil => intro p m _ h; simpa using h
  | cons d l ih =>
    intro p m h hm
    obtain ⟨h1, h2⟩ := ckL_cons h
    simp only [List.cons_append, ckL]
    rw [if_neg (by simp [h1])]
    refine ih _ m h2 ?_
    rw [if_neg (by simp)] at hm
    split
    · rename_i e; subst e; simpa [lastT] using hm
    · rename_i e
      have : lastT (d :: l) = lastT l := by unfold lastT; rw [List.getLast?_cons]; cases e2 : l.getLast? with
        | none => simp at e2; exact absurd e2 e
        | some v => simp
      rw [← this]; exact hm
theorem ckL_init (r : List Nm) : ∀ (l : List Nd) (p : Bool) (d : Nd), ckL r p (l ++ [d]) = 0 → ckL r p l = 0 ∧ ckN r (if l = [] then p else lastT l) d = 0 := by
  intro l
  induction l with
  | nil => intro p d h; exact ⟨rfl, (ckL_cons h).1⟩
  | cons c l ih =>
    intro p d h
    obtain ⟨h1, h2⟩ := ckL_cons (l := l ++ [d]) h
    obtain ⟨g1, g2⟩ := ih _ d h2
    refine ⟨?_, ?_⟩
    · simp only [ckL]; rw [if_neg (by simp [h1])]; exact g1
    · rw [if_neg (by simp)]
      split at g2
      · rename_i e; subst e; simpa [lastT] using g2
      · rename_i e
        have : lastT (c :: l) = lastT l := by unfold lastT; rw [List.getLast?_cons]; cases e2 : l.getLast? with
          | none => simp at e2; exact absurd e2 e
          | some v => simp
        rw [this]; exact g2
theorem ckN_any {r : List Nm} {p q : Bool} {d : Nd} (h : ckN r p d = 0) (hq : q = true → d.n ≠ []) : ckN r q d = 0 := by
  cases d with
  | mk n a x k =>
    obtain ⟨h1, h2, h3⟩ := ckN_mk h
    simp only [ckN]
    rw [if_neg (by simp [h1]), if_neg (by rintro ⟨a, b⟩; exact hq a b), h3]
theorem pt_ck (r : List Nm) (l : List Nd) (d : Nd) (h : ckL r false l = 0) (hd : ckN r false d = 0) : ckL r false (pt l d) = 0 := by
  by_cases hT : lastT l = true ∧ d.n = []
  · obtain ⟨hT, hn⟩ := hT
    rcases List.eq_nil_or_concat l with rfl | ⟨o, c, rfl⟩
    · simp [lastT] at hT
    · rw [List.concat_eq_append] at *
      rw [lastT_snoc] at hT
      cases c with
      | mk n a x k =>
        obtain rfl : n = [] := of_decide_eq_true hT
        obtain ⟨g1, g2⟩ := ckL_init r o false _ h
        obtain ⟨g3, g4, g5⟩ := ckN_mk g2
        obtain ⟨g6, rfl, rfl⟩ := ndE_tx g3
        have e : pt (o ++ [.mk [] [] x []]) d = o ++ [.mk [] [] (x ++ d.x) []] := by
          unfold pt; simp [hn]
        rw [e]
        refine ckL_app r o false _ g1 ?_
        simp only [ckL, ckN, ndE]
        have g7 : ¬ (if o = [] then false else lastT o) = true := fun e => g4 ⟨e, rfl⟩
        simp [g6]
        intro e1 e2
        rw [if_neg e1] at g7
        exact absurd e2 g7
  · have hap : pt l d = l ++ [d] := by
      by_cases hL : lastT l = true
      · exact pt_el l d (fun e => hT ⟨hL, e⟩)
      · exact pt_no l d (by simpa using hL)
    rw [hap]
    refine ckL_app r l false _ h ?_
    have : ckN r (if l = [] then false else lastT l) d = 0 := by
      refine ckN_any hd (fun e => ?_)
      split at e
      · simp at e
      · exact fun e2 => hT ⟨e, e2⟩
    simp only [ckL]
    rw [if_neg (fun e => e this)]
theorem dp_app (l m : List Nd) : dpL (l ++ m) = max (dpL l) (dpL m) := by
  induction l with
  | nil => simp [dpL]
  | cons d l ih => simp only [List.cons_append, dpL, ih]; omega
theorem pt_dp (l : List Nd) (d : Nd) (m : Nat) (h : dpL l ≤ m) (hd : dpN d ≤ m) : dpL (pt l d) ≤ m := by
  unfold pt
  split
  · rename_i a x k e
    split
    · rcases List.eq_nil_or_concat l with rfl | ⟨o, c, rfl⟩
      · simp at e
      · simp only [List.concat_eq_append, List.getLast?_append, List.getLast?_singleton, Option.some_or, Option.some.injEq, List.dropLast_concat] at *
        rw [dp_app] at *
        simp [dpL, dpN] at *; omega
    · rw [dp_app]; simp only [dpL]; omega
  · rw [dp_app]; simp only [dpL]; omega
theorem iv_put {s : St} {d : Nd} (h : Iv s) (hd : ckN (nms s) false d = 0) (hp : s.2.length + dpN d ≤ 8) : Iv (put s d) := by
  obtain ⟨r, f⟩ := s
  cases f with
  | nil => exact ⟨trivial, pt_ck _ _ _ h.2.1 hd, pt_dp _ _ _ h.2.2 (by simpa using hp)⟩
  | cons c f =>
    obtain ⟨n, a, k⟩ := c
    obtain ⟨⟨h1, h2, h3, h4, h5, h6, h7, h8⟩, g⟩ := h
    simp only [List.length_cons] at hp
    refine ⟨⟨h1, h2, h3, h4, h5, pt_ck _ _ _ h6 hd, ?_, h8⟩, g⟩
    have := pt_dp k d (8 - (f.length + 1)) (by omega) (by omega)
    omega
theorem iv_pop {s : St} (h : Iv s) : Iv (pop s) := by
  obtain ⟨r, f⟩ := s
  cases f with
  | nil => exact h
  | cons c f =>
    obtain ⟨n, a, k⟩ := c
    obtain ⟨⟨h1, h2, h3, h4, h5, h6, h7, h8⟩, g⟩ := h
    refine iv_put (s := (r, f)) ⟨h8, g⟩ ?_ ?_
    · show ckN (f.map (·.1)) false _ = 0
      simp only [ckN, ndE, if_neg h1]
      rw [if_neg (show ¬ (([] : List UInt8) ≠ [] ∨ isNm n = false ∨ emptyN n = true ∧ k ≠ []) by simp [h2, h3])]
      simp [h4, h5, h6, h1]
    · simp only [dpN, if_neg h1]; omega
theorem iv_pops (j : Nat) : ∀ {s : St}, Iv s → Iv (pops j s) := by
  induction j with
  | zero => intro s h; exact h
  | succ j ih => intro s h; exact ih (iv_pop h)
theorem iv_good {m : Nat} : ∀ {f : List (Nm × List Atr × List Nd)}, IvF m f → Good (f.map (·.1)) := by
  intro f
  induction f with
  | nil => intro _; trivial
  | cons c f ih =>
    obtain ⟨n, a, k⟩ := c
    intro h
    exact ⟨by simpa using h.2.2.2.2.1, ih h.2.2.2.2.2.2.2⟩
theorem iv_len {m : Nat} {f : List (Nm × List Atr × List Nd)} (h : IvF m f) : f.length ≤ 8 := by
  cases f with
  | nil => simp
  | cons c f => obtain ⟨n, a, k⟩ := c; have := h.2.2.2.2.2.2.1; simp; omega
theorem tkE_zero {t : Tok} (h : tkE t = 0) : TOk t ∧ (t.1 = 1 → t.2.1 = [] ∧ t.2.2.1 = [] ∧ t.2.2.2 ≠ []) ∧ (t.1 ≠ 1 → t.2.2.2 = [] ∧ isNm t.2.1 = true ∧ t.2.1 ≠ [] ∧ atE t.2.2.1 = 0) := by
  unfold tkE at h
  split at h
  · simp at h
  rename_i h1
  split at h
  · simp at h
  rename_i h2
  have e1 : t.1 ≠ 1 → isNm t.2.1 = true ∧ atE t.2.2.1 = 0 := by
    intro e
    rw [if_neg e] at h
    split at h
    · simp at h
    · rename_i h3; exact ⟨by simpa using h3, h⟩
  refine ⟨⟨by omega, fun e => isNm_ne (e1 (by omega)).1⟩, fun e => ⟨?_, ?_, ?_⟩, fun e => ⟨?_, (e1 e).1, isNm_ne (e1 e).1, (e1 e).2⟩⟩
  · exact Decidable.byContradiction fun q => h2 (.inl ⟨e, .inl q⟩)
  · exact Decidable.byContradiction fun q => h2 (.inl ⟨e, .inr (.inl q)⟩)
  · exact fun q => h2 (.inl ⟨e, .inr (.inr q)⟩)
  · exact Decidable.byContradiction fun q => h2 (.inr (.inl ⟨e, q⟩))
theorem iv_stp {s : St} {t : Tok} (h : Iv s) (ht : tkE t = 0) : Iv (stp s t) := by
  obtain ⟨hk, h1, h2⟩ := tkE_zero ht
  unfold stp
  by_cases e1 : t.1 = 1
  · rw [if_pos e1]
    obtain ⟨g1, g2, g3⟩ := h1 e1
    refine iv_put h ?_ ?_
    · simp [ckN, ndE, g3, ckL]
    · simp only [dpN, if_true]; have := iv_len h.1; omega
  rw [if_neg e1]
  obtain ⟨g1, g2, g3, g4⟩ := h2 e1
  by_cases e2 : t.1 = 2
  · rw [if_pos e2]
    have hP := iv_pops (s.2.length - cls (nms s) t.2.1) h
    obtain ⟨S, hS⟩ : ∃ S, S = pops (s.2.length - cls (nms s) t.2.1) s := ⟨_, rfl⟩
    have hcl : cls (nms S) t.2.1 = S.2.length := by
      rw [hS, pops_nms, pops_len, ← nms_len, cls_idem (nms s) _ (iv_good h.1)]
      have := cls_le (nms s) t.2.1; omega
    rw [← hS] at hP ⊢
    unfold opn
    have hl := iv_len hP.1
    split
    · exact hP
    rename_i h8
    split
    · rename_i he
      refine iv_put hP ?_ ?_
      · simp only [ckN, ndE, if_neg g3]
        rw [if_neg (show ¬ (([] : List UInt8) ≠ [] ∨ isNm t.2.1 = false ∨ emptyN t.2.1 = true ∧ ([] : List Nd) ≠ []) by simp [g2])]
        rw [nms_len]
        simp [g4, hcl, ckL]
      · simp only [dpN, if_neg g3, dpL]; omega
    · rename_i he
      refine ⟨⟨g3, g2, by simpa using he, g4, hcl, rfl, by simp only [dpL]; omega, hP.1⟩, hP.2⟩
  rw [if_neg e2]
  split
  · split
    · exact iv_pops _ h
    · exact h
  · exact h
theorem iv_foldl (l : List Tok) : ∀ {s : St}, Iv s → (∀ t ∈ l, tkE t = 0) → Iv (l.foldl stp s) := by
  induction l with
  | nil => intro s h _; exact h
  | cons t l ih => intro s h ht; exact ih (iv_stp h (ht t (by simp))) (fun u hu => ht u (by simp [hu]))
theorem tkEF_each (l : List Tok) : ∀ k, tkEF k l = 0 → ∀ t ∈ l, tkE t = 0 := by
  induction l with
  | nil => intro k _ t ht; simp at ht
  | cons u l ih =>
    intro k h t ht
    simp only [tkEF] at h
    split at h
    · rename_i a; exact absurd h a
    rename_i a
    split at h
    · simp at h
    rcases List.mem_cons.1 ht with rfl | ht
    · exact Decidable.not_not.1 a
    · exact ih _ h t ht
theorem ckE_all {l : List Tok} (h : ckE l = 0) : l.length ≤ 3000 ∧ ∀ t ∈ l, tkE t = 0 := by
  unfold ckE at h
  split at h
  · simp at h
  · exact ⟨by omega, tkEF_each l 0 h⟩
theorem cnt_app (l m : List Nd) : cntL (l ++ m) = cntL l + cntL m := by
  induction l with
  | nil => simp [cntL]
  | cons d l ih => simp only [List.cons_append, cntL, ih]; omega
theorem pt_cnt (l : List Nd) (d : Nd) : cntL (pt l d) ≤ cntL l + cntN d := by
  unfold pt
  split
  · rename_i a x k e
    split
    · rcases List.eq_nil_or_concat l with rfl | ⟨o, c, rfl⟩
      · simp at e
      · simp only [List.concat_eq_append, List.getLast?_append, List.getLast?_singleton, Option.some_or, Option.some.injEq, List.dropLast_concat] at *
        subst e
        rw [cnt_app, cnt_app]
        simp only [cntL, cntN]; omega
    · rw [cnt_app]; simp [cntL]
  · rw [cnt_app]; simp [cntL]
/-- How many nodes a builder holds. -/
def cntF : List (Nm × List Atr × List Nd) → Nat
  | [] => 0
  | (_, _, k) :: f => 1 + cntL k + cntF f
def cntS (s : St) : Nat := cntL s.1 + cntF s.2
theorem put_cnt (s : St) (d : Nd) : cntS (put s d) ≤ cntS s + cntN d := by
  obtain ⟨r, f⟩ := s
  cases f with
  | nil => have := pt_cnt r d; simp only [put, cntS, cntF]; omega
  | cons c f => obtain ⟨n, a, k⟩ := c; have := pt_cnt k d; simp only [put, cntS, cntF]; omega
theorem pop_cnt (s : St) : cntS (pop s) ≤ cntS s := by
  obtain ⟨r, f⟩ := s
  cases f with
  | nil => exact Nat.le_refl _
  | cons c f =>
    obtain ⟨n, a, k⟩ := c
    have := put_cnt (r, f) (.mk n a [] k)
    simp only [pop, cntS, cntF, cntN] at *; omega
theorem pops_cnt (j : Nat) : ∀ s : St, cntS (pops j s) ≤ cntS s := by
  induction j with
  | zero => intro s; exact Nat.le_refl _
  | succ j ih => intro s; exact Nat.le_trans (ih _) (pop_cnt s)
theorem stp_cnt (s : St) (t : Tok) : cntS (stp s t) ≤ cntS s + 1 := by
  unfold stp
  split
  · have := put_cnt s (.mk [] [] t.2.2.2 []); simp only [cntN, cntL] at this; omega
  split
  · have h1 := pops_cnt (s.2.length - cls (nms s) t.2.1) s
    unfold opn
    split
    · omega
    split
    · have h2 := put_cnt (pops (s.2.length - cls (nms s) t.2.1) s) (.mk t.2.1 t.2.2.1 [] []); simp only [cntN, cntL] at h2; omega
    · simp only [cntS, cntF, cntL] at *; omega
  split
  · split
    · rename_i i _; have h1 := pops_cnt (s.2.length - i) s; omega
    · omega
  · omega
theorem foldl_cnt (l : List Tok) : ∀ s : St, cntS (l.foldl stp s) ≤ cntS s + l.length := by
  induction l with
  | nil => intro s; exact Nat.le_refl _
  | cons t l ih => intro s; have := ih (stp s t); have := stp_cnt s t; simp only [List.foldl_cons, List.length_cons]; omega
theorem ntx_app (l m : List Nd) : ntxL (l ++ m) = ntxL l ++ ntxL m := by
  induction l with
  | nil => simp [ntxL]
  | cons d l ih => simp [ntxL, ih]
/-- Texts of nodes have no kids, to any depth. -/
def Lf (l : List Nd) : Prop := ∀ d ∈ l, d.n = [] → d.k = []
theorem ntx_pt (l : List Nd) (d : Nd) (hl : Lf l) (hd : d.n = [] → d.k = []) : ntxL (pt l d) = ntxL l ++ ntxN d ∧ Lf (pt l d) := by
  have happ : ntxL (l ++ [d]) = ntxL l ++ ntxN d ∧ Lf (l ++ [d]) := by
    refine ⟨by simp [ntx_app, ntxL], fun c hc => ?_⟩
    rcases List.mem_append.1 hc with hc | hc
    · exact hl c hc
    · rw [List.mem_singleton] at hc; subst hc; exact hd
  unfold pt
  split
  · rename_i a x k e
    split
    · rename_i hn
      rcases List.eq_nil_or_concat l with rfl | ⟨o, c, rfl⟩
      · simp at e
      · simp only [List.concat_eq_append, List.getLast?_append, List.getLast?_singleton, Option.some_or, Option.some.injEq, List.dropLast_concat] at *
        subst e
        have hk : k = [] := hl (.mk [] a x k) (by simp) rfl
        subst hk
        have h2 := hd hn
        cases d with
        | mk n' a' x' k' =>
          simp only [Nd.k] at h2
          subst h2
          refine ⟨by simp [ntx_app, ntxL, ntxN, Nd.x], fun c hc => ?_⟩
          rcases List.mem_append.1 hc with hc | hc
          · exact hl c (List.mem_append_left _ hc)
          · rw [List.mem_singleton] at hc; subst hc; intro _; rfl
    · exact happ
  · exact happ
def ntxF : List (Nm × List Atr × List Nd) → List UInt8
  | [] => []
  | (_, _, k) :: f => ntxF f ++ ntxL k
def ntxS (s : St) : List UInt8 := ntxL s.1 ++ ntxF s.2
def LfF : List (Nm × List Atr × List Nd) → Prop
  | [] => True
  | (n, _, k) :: f => n ≠ [] ∧ Lf k ∧ LfF f
def LfS (s : St) : Prop := Lf s.1 ∧ LfF s.2
theorem put_txt {s : St} {d : Nd} (h : LfS s) (hd : d.n = [] → d.k = []) : ntxS (put s d) = ntxS s ++ ntxN d ∧ LfS (put s d) := by
  obtain ⟨r, f⟩ := s
  cases f with
  | nil =>
    obtain ⟨e, g⟩ := ntx_pt r d h.1 hd
    exact ⟨by simp [put, ntxS, ntxF, e], g, trivial⟩
  | cons c f =>
    obtain ⟨n, a, k⟩ := c
    obtain ⟨e, g⟩ := ntx_pt k d h.2.2.1 hd
    exact ⟨by simp [put, ntxS, ntxF, e], h.1, h.2.1, g, h.2.2.2⟩
theorem pop_txt {s : St} (h : LfS s) : ntxS (pop s) = ntxS s ∧ LfS (pop s) := by
  obtain ⟨r, f⟩ := s
  cases f with
  | nil => exact ⟨rfl, h⟩
  | cons c f =>
    obtain ⟨n, a, k⟩ := c
    obtain ⟨e, g⟩ := put_txt (s := (r, f)) (d := .mk n a [] k) ⟨h.1, h.2.2.2⟩ (fun e => absurd e h.2.1)
    refine ⟨?_, g⟩
    rw [show pop (r, (n, a, k) :: f) = put (r, f) (.mk n a [] k) from rfl, e]
    simp [ntxS, ntxF, ntxN]
theorem pops_txt (j : Nat) : ∀ {s : St}, LfS s → ntxS (pops j s) = ntxS s ∧ LfS (pops j s) := by
  induction j with
  | zero => intro s h; exact ⟨rfl, h⟩
  | succ j ih =>
    intro s h
    obtain ⟨e1, g1⟩ := pop_txt h
    obtain ⟨e2, g2⟩ := ih g1
    exact ⟨by rw [pops_succ, e2, e1], g2⟩
theorem stp_txt {s : St} {t : Tok} (h : LfS s) (ht : tkE t = 0) : ntxS (stp s t) = ntxS s ++ t.2.2.2 ∧ LfS (stp s t) := by
  obtain ⟨hk, h1, h2⟩ := tkE_zero ht
  unfold stp
  by_cases e1 : t.1 = 1
  · rw [if_pos e1]
    obtain ⟨e, g⟩ := put_txt (d := .mk [] [] t.2.2.2 []) h (fun _ => rfl)
    exact ⟨by rw [e]; simp [ntxN, ntxL], g⟩
  rw [if_neg e1]
  obtain ⟨g1, g2, g3, g4⟩ := h2 e1
  rw [g1, List.append_nil]
  by_cases e2 : t.1 = 2
  · rw [if_pos e2]
    obtain ⟨e, g⟩ := pops_txt (s.2.length - cls (nms s) t.2.1) h
    unfold opn
    split
    · exact ⟨e, g⟩
    split
    · obtain ⟨e', g'⟩ := put_txt (d := .mk t.2.1 t.2.2.1 [] []) g (fun _ => rfl)
      exact ⟨by rw [e', e]; simp [ntxN, ntxL], g'⟩
    · exact ⟨by rw [← e]; simp [ntxS, ntxF, ntxL], g.1, g3, fun c hc => by simp at hc, g.2⟩
  rw [if_neg e2]
  split
  · split
    · exact pops_txt _ h
    · exact ⟨rfl, h⟩
  · exact ⟨rfl, h⟩
theorem foldl_txt (l : List Tok) : ∀ {s : St}, LfS s → (∀ t ∈ l, tkE t = 0) → ntxS (l.foldl stp s) = ntxS s ++ l.flatMap (·.2.2.2) ∧ LfS (l.foldl stp s) := by
  induction l with
  | nil => intro s h _; exact ⟨by simp, h⟩
  | cons t l ih =>
    intro s h ht
    obtain ⟨e1, g1⟩ := stp_txt h (ht t (by simp))
    obtain ⟨e2, g2⟩ := ih g1 (fun u hu => ht u (by simp [hu]))
    exact ⟨by rw [List.foldl_cons, e2, e1]; simp, g2⟩
end Go.Proofs.YthnpljkekhieiaaGreatDoor

namespace Go.Proofs.YthnpljkekhieiaaGreatDoor
open Go.RowKit

/-- One of : / ? #. -/
def stopU (c : UInt8) : Bool := decide (c.toNat = 58) || decide (c.toNat = 47) || decide (c.toNat = 63) || decide (c.toNat = 35)
/-- May a byte stand in a scheme at that place? -/
def okU (k : Nat) (c : UInt8) : Bool := ltr c || decide (k ≠ 0) && (decide (48 ≤ c.toNat) && decide (c.toNat ≤ 57) || decide (c.toNat = 43) || decide (c.toNat = 45) || decide (c.toNat = 46))
def okUs (s : List UInt8) : Bool := (List.range s.length).all fun k => okU k (s.getD k 0)
/-- How many bytes a scheme has. -/
def schU (s : List UInt8) : Nat := match s.findIdx? stopU with
  | none => 0
  | some i => if s[i]? = some 58 ∧ okUs (s.take i) = true then i else 0
def sHttp : Nm := [104, 116, 116, 112]
def sHttps : Nm := [104, 116, 116, 112, 115]
def sMail : Nm := [109, 97, 105, 108, 116, 111]
def shrU (s : List UInt8) : List UInt8 := fold (s.filter fun c => decide (32 < c.toNat))
def prU (t : List UInt8) : List UInt8 := t.take (schU t)
/-- May a link be followed? -/
def isU (s : List UInt8) : Bool := decide (prU (shrU s) = sHttp) || decide (prU (shrU s) = sHttps) || decide (prU (shrU s) = sMail)

def sA : Nm := [97]
def sHref : Nm := [104, 114, 101, 102]
def sTitle : Nm := [116, 105, 116, 108, 101]
def sSrc : Nm := [115, 114, 99]
def sAlt : Nm := [97, 108, 116]
def alwL : List Nm := [[97], [98], [105], [101, 109], [115, 116, 114, 111, 110, 103], [112], [98, 114], [104, 114], [117, 108], [111, 108], [108, 105], [98, 108, 111, 99, 107, 113, 117, 111, 116, 101], [99, 111, 100, 101], [105, 109, 103]]
/-- May an element stay? -/
def alwN (n : Nm) : Bool := alwL.contains n
def lnkN (n : Nm) : Bool := decide (n = sHref) || decide (n = sSrc)
/-- May an element have an attribute? -/
def mayA (e n : Nm) : Bool := decide (e = sA) && (decide (n = sHref) || decide (n = sTitle)) || decide (e = sImg) && (decide (n = sSrc) || decide (n = sAlt))
def badA (e : Nm) (a : Atr) : Bool := !mayA e a.1 || lnkN a.1 && (!isU a.2 || decide (3000 < a.2.length))
def hasS (l : List Atr) : Bool := l.any fun a => decide (a.1 = sSrc)
mutual
/-- Is a node clean? -/
def safN : Nd → Bool
  | .mk n a _ k => !(decide (n ≠ []) && (!alwN n || a.any (badA n) || decide (n = sImg) && !hasS a) || !safL k)
def safL : List Nd → Bool
  | [] => true
  | d :: l => safN d && safL l
end
/-- Does markup stay as it is? -/
def stayU (s : List UInt8) : Bool := decide (s.length ≤ 3000) && (safL (ofM (TokL s)) && decide (tksW (fltL (ofM (TokL s))) = s))

/-- Id, title, link, time, markup. -/
abbrev Ent := Nm × Nm × Nm × Int × Nm
def eI (x : Ent) : Nm := x.1
def eT (x : Ent) : Nm := x.2.1
def eL (x : Ent) : Nm := x.2.2.1
def eA (x : Ent) : Int := x.2.2.2.1
def eH (x : Ent) : Nm := x.2.2.2.2
/-- What is wrong with an entry. -/
def chkE (x : Ent) : Int :=
  if eI x = [] then 1
  else if 60 < (eI x).length ∨ 3000 < (eT x).length ∨ 3000 < (eL x).length ∨ 3000 < (eH x).length then 2
  else if eA x < 0 ∨ 4102444799 < eA x then 3
  else if (eL x ≠ [] ∧ isU (eL x) = false) ∨ stayU (eH x) = false then 4
  else 0
def cmpT (a b : Nm) : Int := Lib.compareBytes a b
def ordE (a b : Ent) : Int := if eA a ≠ eA b then eA b - eA a else cmpT (eI a) (eI b)
/-- What is wrong with an entry behind others. -/
def stE (seen : List Ent) (x : Ent) : Int :=
  if chkE x ≠ 0 then chkE x
  else if (seen.any fun y => decide (eI y = eI x)) = true then 6
  else if (seen.getLast?.any fun p => decide (0 ≤ ordE p x)) = true then 4
  else 0
def enG (seen : List Ent) : List Ent → Int
  | [] => 0
  | x :: r => if stE seen x ≠ 0 then stE seen x else enG (seen ++ [x]) r
def rdT1 (p : Option Nm) (s : Nm) : Int :=
  if s = [] then 1 else if 60 < s.length then 2 else if (p.any fun q => !Op.bytesLess q s) = true then 4 else 0
def rdG (p : Option Nm) : List Nm → Int
  | [] => 0
  | s :: r => if rdT1 p s ≠ 0 then rdT1 p s else rdG (some s) r
/-- Entries, ids that were read. -/
abbrev Shf := List Ent × List Nm
/-- What is wrong with a shelf. -/
def ckS (s : Shf) : Int :=
  if 20 < s.1.length ∨ 40 < s.2.length then 2
  else if enG [] s.1 ≠ 0 then enG [] s.1
  else rdG none s.2
def plE (l : List Ent) (i : Nm) : Option Nat := l.findIdx? fun x => decide (eI x = i)
/-- Where an entry belongs. -/
def bsE (l : List Ent) (x : Ent) : Nat := Lib.bsGo (fun t => decide (ordE (l.getD t default) x < 0)) l.length 0 l.length
def insA {α : Type} (l : List α) (i : Nat) (x : α) : List α := l.take i ++ x :: l.drop i
def delA {α : Type} (l : List α) (i : Nat) : List α := l.take i ++ l.drop (i + 1)
def insE (l : List Ent) (x : Ent) : List Ent := insA l (bsE l x) x
/-- An entry comes. -/
def putE (l : List Ent) (x : Ent) : List Ent := match plE l (eI x) with
  | some i => if eA x < eA (l.getD i default) then l else insE (delA l i) x
  | none => insE l x
/-- What is wrong with entries. -/
def enC (l : List Ent) : Int := match l.find? fun x => decide (chkE x ≠ 0) with | some x => chkE x | none => 0
def putC (s : Shf) (l : List Ent) : Int := if ckS s ≠ 0 then ckS s else if 12 < l.length then 2 else enC l
def putL (s : Shf) (l : List Ent) : List Ent := (l.foldl putE s.1).take 20
def putN (s : Shf) (l : List Ent) : Int := ((putL s l).filter fun x => !s.1.contains x).length
def bsT (l : List Nm) (i : Nm) : Nat := Lib.bsGo (fun t => Op.bytesLess (l.getD t []) i) l.length 0 l.length
def fnT (l : List Nm) (i : Nm) : Bool := decide (bsT l i < l.length ∧ l.getD (bsT l i) [] = i)
/-- What marking says, and what is read then. -/
def mkC (s : Shf) (i : Nm) (b : Bool) : Int :=
  if ckS s ≠ 0 then ckS s else if plE s.1 i = none then 5 else if b = true ∧ fnT s.2 i = false ∧ s.2.length = 40 then 2 else 0
def mkR (s : Shf) (i : Nm) (b : Bool) : List Nm :=
  if b = true then (if fnT s.2 i then s.2 else insA s.2 (bsT s.2 i) i) else (if fnT s.2 i then delA s.2 (bsT s.2 i) else s.2)
def drL (s : Shf) : List Ent := s.1.filter fun x => !fnT s.2 (eI x)
def unL (s : Shf) : List Nm := (drL s).map eI
end Go.Proofs.YthnpljkekhieiaaGreatDoor

namespace Go.Proofs.YthnpljkekhieiaaGreatDoor
open Go.RowKit

theorem lowerU_c (c : UInt8) (w : World) : Calls Tryz.prog 67 #[.int .u8 (c.toNat : Int)] w fun e w' => e = .returned (.int .u8 ((fld c).toNat : Int)) ∧ w = w' := by
  have hc := u8_lt c
  have hf := fld_nat c
  by_cases hu : 65 ≤ c.toNat ∧ c.toNat ≤ 90
  · rw [if_pos hu] at hf
    have HF := Lib.hid hf
    obtain ⟨u1, u2⟩ := hu
    have u1' : (65 : Int) ≤ (c.toNat : Int) := by omega
    have u2' : (c.toNat : Int) ≤ 90 := by omega
    clear hf
    go_enter Tryz.func67, Tryz.ntmps67
    go_wp2
    go_ret
    exact ⟨ret_int (by rw [HF.out]; omega), rfl⟩
  · rw [if_neg hu] at hf
    have HF := Lib.hid hf
    clear hf
    by_cases h1 : 65 ≤ c.toNat
    · have u1' : (65 : Int) ≤ (c.toNat : Int) := by omega
      have u2' : ¬ (c.toNat : Int) ≤ 90 := by omega
      clear hu
      go_enter Tryz.func67, Tryz.ntmps67
      go_wp2
      go_ret
      exact ⟨ret_int (by rw [HF.out]), rfl⟩
    · have u1' : ¬ (65 : Int) ≤ (c.toNat : Int) := by omega
      clear hu
      go_enter Tryz.func67, Tryz.ntmps67
      go_wp2
      go_ret
      exact ⟨ret_int (by rw [HF.out]), rfl⟩
/-- : / ? # -/
def cL : List UInt8 := [58, 47, 63, 35]
theorem cL_stop (c : UInt8) : cL.contains c = stopU c := by
  rw [Bool.eq_iff_iff]
  unfold cL stopU
  simp only [List.contains_cons, List.contains_nil, Bool.or_false, Bool.or_eq_true, beq_iff_eq, decide_eq_true_eq]
  have h : ∀ n : UInt8, c = n ↔ c.toNat = n.toNat := fun n => UInt8.toNat_inj.symm
  rw [h 58, h 47, h 63, h 35]
  simp only [show (58 : UInt8).toNat = 58 from rfl, show (47 : UInt8).toNat = 47 from rfl, show (63 : UInt8).toNat = 63 from rfl, show (35 : UInt8).toNat = 35 from rfl]
  omega
/-- The first of these bytes. -/
def ixU (s : List UInt8) : Int := Lib.indexAny s cL
theorem ixU_eq (s : List UInt8) : ixU s = match s.findIdx? stopU with | some i => (i : Int) | none => -1 := by
  unfold ixU
  induction s with
  | nil => rfl
  | cons c s ih =>
    rw [Lib.indexAny, cL_stop, List.findIdx?_cons]
    cases h : stopU c with
    | true => rfl
    | false =>
      simp only [Bool.false_eq_true, if_false]
      rw [ih]
      cases s.findIdx? stopU with
      | none => rfl
      | some i =>
        simp only [Option.map_some]
        rw [if_neg (by intro e; have := beq_iff_eq.1 e; omega)]
        push_cast
        rfl
theorem dec_hi (s : ByteArray) (p : Nat) (h : 128 ≤ (s.get! p).toNat) : 128 ≤ (Utf8.decode s p).1 ∧ ∀ j, p ≤ j → j < p + (Utf8.decode s p).2 → 128 ≤ (s.get! j).toNat := by
  have one : ∀ j, p ≤ j → j < p + 1 → 128 ≤ (s.get! j).toNat := fun j h1 h2 => by rw [show j = p by omega]; exact h
  have ct : ∀ k, (decide (p + k < s.size) && (s.get! (p + k)).toNat / 64 == 2) = true → 128 ≤ (s.get! (p + k)).toNat := fun k hk => by
    have := beq_iff_eq.1 (Bool.and_eq_true _ _ ▸ hk).2
    omega
  unfold Utf8.decode
  simp only [Nat.add_zero, Utf8.runeError]
  rw [if_neg (by omega)]
  split
  · rename_i h1
    have k1 := ct 1 (Bool.and_eq_true _ _ ▸ h1).2
    split
    · rename_i h2
      refine ⟨by omega, fun j h3 h4 => ?_⟩
      by_cases e : j = p
      · rw [e]; exact h
      · rw [show j = p + 1 by omega]; exact k1
    · exact ⟨by omega, one⟩
  · split
    · rename_i h1
      simp only [Bool.and_eq_true] at h1
      have k1 := ct 1 (by simpa using h1.1.2)
      have k2 := ct 2 (by simpa using h1.2)
      split
      · rename_i h2
        simp only [Bool.and_eq_true, decide_eq_true_eq] at h2
        refine ⟨by omega, fun j h3 h4 => ?_⟩
        by_cases e : j = p
        · rw [e]; exact h
        · by_cases e2 : j = p + 1
          · rw [e2]; exact k1
          · rw [show j = p + 2 by omega]; exact k2
      · exact ⟨by omega, one⟩
    · split
      · rename_i h1
        simp only [Bool.and_eq_true] at h1
        have k1 := ct 1 (by simpa using h1.1.1.2)
        have k2 := ct 2 (by simpa using h1.1.2)
        have k3 := ct 3 (by simpa using h1.2)
        split
        · rename_i h2
          simp only [Bool.and_eq_true, decide_eq_true_eq] at h2
          refine ⟨by omega, fun j h3 h4 => ?_⟩
          by_cases e : j = p
          · rw [e]; exact h
          · by_cases e2 : j = p + 1
            · rw [e2]; exact k1
            · by_cases e3 : j = p + 2
              · rw [e3]; exact k2
              · rw [show j = p + 3 by omega]; exact k3
        · exact ⟨by omega, one⟩
      · exact ⟨by omega, one⟩
theorem iter_bl (w : World) (s : ByteArray) (p : Nat) : Bl w (w.iter s p) := (Bl.refl _).alloc _
theorem next_c (w : World) (i : Nat) (hi : i < 4) (ty : TypeId) : (Instr.next (.pointer (some ⟨w.heap.size, 0, none⟩)) true ty).run Tryz.prog (w.iter ⟨cL.toArray⟩ i) = .ok (.tuple #[.bool true, .int .i64 i, .int .i32 ((cL.getD i 0).toNat : Int)]) (w.iter ⟨cL.toArray⟩ (i + 1)) := by
  have h := run_next_ascii (P := Tryz.prog) w ⟨cL.toArray⟩ i ty (by show i < 4; exact hi) (by
    match i, hi with
    | 0, _ => exact (by decide : (58 : UInt8).toNat < 128)
    | 1, _ => exact (by decide : (47 : UInt8).toNat < 128)
    | 2, _ => exact (by decide : (63 : UInt8).toNat < 128)
    | 3, _ => exact (by decide : (35 : UInt8).toNat < 128))
  rw [h]
  match i, hi with
  | 0, _ => rfl
  | 1, _ => rfl
  | 2, _ => rfl
  | 3, _ => rfl
theorem ib_none (t : List UInt8) (y : UInt8) (h : ∀ b ∈ t, b ≠ y) : Lib.indexByte t y = -1 := by
  induction t with
  | nil => rfl
  | cons b t ih =>
    have h1 : (b == y) = false := by simpa using h b (by simp)
    rw [Lib.indexByte, h1, ih (fun c hc => h c (List.mem_cons_of_mem _ hc))]
    simp
theorem ib_c (t : ByteArray) (y : UInt8) (hy : 128 ≤ y.toNat) (ht : ∀ b ∈ t.data.toList, b.toNat < 128) (W : World) :
    Calls Tryz.prog 137 #[.string t, .int .u8 (y.toNat : Int)] W fun e w' => e = .returned (.int .i64 (-1)) ∧ W = w' := by
  refine (Tryz.strings_IndexByte t (y.toNat : Int) W).mono ?_
  rintro e w' ⟨rfl, rfl⟩
  refine ⟨ret_int ?_, rfl⟩
  have e1 : ((y.toNat : Int)).toNat.toUInt8 = y := by simp
  rw [e1]
  exact ib_none _ _ (fun b hb e => by have := ht b hb; rw [e] at this; omega)
theorem enc_shape (r : Int) (hv : Utf8.valid r = true) (h : 128 ≤ r) : (∃ a y : UInt8, Utf8.encode r = ⟨#[a, y]⟩ ∧ 128 ≤ y.toNat) ∨ (∃ a b y : UInt8, Utf8.encode r = ⟨#[a, b, y]⟩ ∧ 128 ≤ y.toNat) ∨ ∃ a b c y : UInt8, Utf8.encode r = ⟨#[a, b, c, y]⟩ ∧ 128 ≤ y.toNat := by
  have hc : ¬ r.toNat < 128 := by omega
  unfold Utf8.encode
  simp only [hv, if_true, hc, if_false]
  split
  · exact .inl ⟨_, _, rfl, by simp; omega⟩
  · split
    · exact .inr (.inl ⟨_, _, _, rfl, by simp; omega⟩)
    · exact .inr (.inr ⟨_, _, _, _, rfl, by simp; omega⟩)
set_option maxHeartbeats 4000000 in
set_option maxRecDepth 100000 in
theorem idxR_e2 (r : Int) (a y : UInt8) (hB : Utf8.encode r = ⟨#[a, y]⟩) (hy : 128 ≤ y.toNat) (q1 : 0 ≤ r) (q2 : ¬ r < 128) (q3 : ¬ r = 65533) (hv : Lib.validRune r = true) (w : World) :
    Calls Tryz.prog 117 #[.string ⟨#[58, 47, 63, 35]⟩, .int .i32 r] w fun e w' => e = .returned (.int .i64 (-1)) ∧ Bl w w' := by
  have VC := Lib.hid (fun W => Tryz.utf8_ValidRune r W)
  rw [hv] at VC
  have hc := u8_lt y
  have hne : ¬ ((47 : Int) = (y.toNat : Int)) := by omega
  clear hv
  go_enter Tryz.func117, Tryz.ntmps117
  go_wp2_with (go_at_call 138; (with_reducible refine (VC.out _).mono ?_); rintro e w' ⟨rfl, rfl⟩)
  go_step3
  go_wp2
  refine wp_loop_rounds 1 ?_
  rw [rounds_succ]
  go_wp2
  go_step3
  go_wp2_with (first | (go_quiet (fail)) | (go_quiet ((go_at_call 137; first | exact quiet_eq (ib_c _ _ hy (by decide) _) | exact quiet_eq2 (ib_c _ _ hy (by decide) _)))))
  rw [Exit.noGoto_ret]
  go_wp2
  rw [Exit.noGoto_ret]
  go_ret
  exact ⟨rfl, (Qt.refl _).bl.drewN _⟩
set_option maxHeartbeats 4000000 in
set_option maxRecDepth 100000 in
theorem idxR_e3 (r : Int) (a b y : UInt8) (hB : Utf8.encode r = ⟨#[a, b, y]⟩) (hy : 128 ≤ y.toNat) (q1 : 0 ≤ r) (q2 : ¬ r < 128) (q3 : ¬ r = 65533) (hv : Lib.validRune r = true) (w : World) :
    Calls Tryz.prog 117 #[.string ⟨#[58, 47, 63, 35]⟩, .int .i32 r] w fun e w' => e = .returned (.int .i64 (-1)) ∧ Bl w w' := by
  have VC := Lib.hid (fun W => Tryz.utf8_ValidRune r W)
  rw [hv] at VC
  have hc := u8_lt y
  have hne : ¬ ((63 : Int) = (y.toNat : Int)) := by omega
  clear hv
  go_enter Tryz.func117, Tryz.ntmps117
  go_wp2_with (go_at_call 138; (with_reducible refine (VC.out _).mono ?_); rintro e w' ⟨rfl, rfl⟩)
  go_step3
  go_wp2
  refine wp_loop_rounds 1 ?_
  rw [rounds_succ]
  go_wp2
  go_step3
  go_wp2_with (first | (go_quiet (fail)) | (go_quiet ((go_at_call 137; first | exact quiet_eq (ib_c _ _ hy (by decide) _) | exact quiet_eq2 (ib_c _ _ hy (by decide) _)))))
  rw [Exit.noGoto_ret]
  go_wp2
  rw [Exit.noGoto_ret]
  go_ret
  exact ⟨rfl, (Qt.refl _).bl.drewN _⟩
set_option maxHeartbeats 4000000 in
set_option maxRecDepth 100000 in
theorem idxR_e4 (r : Int) (a b c y : UInt8) (hB : Utf8.encode r = ⟨#[a, b, c, y]⟩) (hy : 128 ≤ y.toNat) (q1 : 0 ≤ r) (q2 : ¬ r < 128) (q3 : ¬ r = 65533) (hv : Lib.validRune r = true) (w : World) :
    Calls Tryz.prog 117 #[.string ⟨#[58, 47, 63, 35]⟩, .int .i32 r] w fun e w' => e = .returned (.int .i64 (-1)) ∧ Bl w w' := by
  have VC := Lib.hid (fun W => Tryz.utf8_ValidRune r W)
  rw [hv] at VC
  have hc := u8_lt y
  have hne : ¬ ((35 : Int) = (y.toNat : Int)) := by omega
  clear hv
  go_enter Tryz.func117, Tryz.ntmps117
  go_wp2_with (go_at_call 138; (with_reducible refine (VC.out _).mono ?_); rintro e w' ⟨rfl, rfl⟩)
  go_step3
  go_wp2
  refine wp_loop_rounds 1 ?_
  rw [rounds_succ]
  go_wp2
  go_step3
  go_wp2_with (first | (go_quiet (fail)) | (go_quiet ((go_at_call 137; first | exact quiet_eq (ib_c _ _ hy (by decide) _) | exact quiet_eq2 (ib_c _ _ hy (by decide) _)))))
  rw [Exit.noGoto_ret]
  go_wp2
  rw [Exit.noGoto_ret]
  go_ret
  exact ⟨rfl, (Qt.refl _).bl.drewN _⟩
set_option maxRecDepth 100000 in
theorem idxR_inv (r : Int) (q1 : 0 ≤ r) (q2 : ¬ r < 128) (q3 : ¬ r = 65533) (hv : Lib.validRune r = false) (w : World) :
    Calls Tryz.prog 117 #[.string ⟨#[58, 47, 63, 35]⟩, .int .i32 r] w fun e w' => e = .returned (.int .i64 (-1)) ∧ Bl w w' := by
  have VC := Lib.hid (fun W => Tryz.utf8_ValidRune r W)
  rw [hv] at VC
  clear hv
  go_enter Tryz.func117, Tryz.ntmps117
  go_wp2_with (go_at_call 138; (with_reducible refine (VC.out _).mono ?_); rintro e w' ⟨rfl, rfl⟩)
  go_ret
  exact ⟨rfl, Bl.refl _⟩
set_option maxHeartbeats 4000000 in
set_option maxRecDepth 100000 in
/-- A code point that is no ASCII is none of these bytes. -/
theorem idxR_hi (r : Nat) (h : 128 ≤ r) (w : World) :
    Calls Tryz.prog 117 #[.string ⟨#[58, 47, 63, 35]⟩, .int .i32 (r : Int)] w fun e w' => e = .returned (.int .i64 (-1)) ∧ Bl w w' := by
  have q1 : (0 : Int) ≤ (r : Int) := by omega
  have q2 : ¬ (r : Int) < 128 := by omega
  by_cases he : r = 65533
  · subst he
    have hnx := next_c w
    have hne := fun ty => run_next_end (P := Tryz.prog) w ⟨cL.toArray⟩ 4 ty (by show ¬ 4 < 4; omega)
    have HN := Lib.hid hnx
    have HE := Lib.hid hne
    clear hnx hne
    go_enter Tryz.func117, Tryz.ntmps117
    go_wp2
    go_loopg [5, 6] 4 (fun g _ _ wx => ∃ i : Nat, i + g = 4 ∧ wx = w.iter ⟨#[58, 47, 63, 35]⟩ i)
    case atStart => exact ⟨0, rfl, rfl⟩
    case round =>
      obtain ⟨i, hig, rfl⟩ := hrel
      cases gk with
      | zero =>
        obtain rfl : i = 4 := by omega
        have hnx := HE.out
        unfold cL at hnx
        go_wp2
        go_ret
        exact ⟨rfl, iter_bl _ _ _⟩
      | succ g =>
        have hi : i < 4 := by omega
        have hnx := HN.out i hi
        have h2 : (((cL.getD i 0).toNat : Int) == 65533) = false := by
          match i, hi with
          | 0, _ => decide
          | 1, _ => decide
          | 2, _ => decide
          | 3, _ => decide
        obtain ⟨x, hx⟩ : ∃ x : Int, x = ((cL.getD i 0).toNat : Int) := ⟨_, rfl⟩
        rw [← hx] at hnx h2
        have h3 : x ≠ 65533 := by simpa using h2
        unfold cL at hnx
        clear hx
        go_wp2
        go_roundg g
        case measure => omega
        case rel => exact ⟨i + 1, by omega, rfl⟩
  · have q3 : ¬ (r : Int) = 65533 := by omega
    cases hv : Lib.validRune (r : Int) with
    | false => exact idxR_inv _ q1 q2 q3 hv w
    | true =>
      have hval : Utf8.valid (r : Int) = true := by
        have : Utf8.valid (r : Int) = Lib.validRune (r : Int) := by
          unfold Lib.validRune at hv ⊢
          rw [hv]
          unfold Utf8.valid
          simp only [decide_eq_true_eq] at hv
          simp only [Bool.or_eq_true, Bool.and_eq_true, decide_eq_true_eq]
          omega
        rw [this, hv]
      rcases enc_shape (r : Int) hval (by omega) with ⟨a, y, hB, hy⟩ | ⟨a, b, y, hB, hy⟩ | ⟨a, b, c, y, hB, hy⟩
      · exact idxR_e2 _ a y hB hy q1 q2 q3 hv w
      · exact idxR_e3 _ a b y hB hy q1 q2 q3 hv w
      · exact idxR_e4 _ a b c y hB hy q1 q2 q3 hv w
theorem get_at (s : List UInt8) (i : Nat) (h : i < s.length) : (⟨s.toArray⟩ : ByteArray).get! i = s[i] := by
  show s.toArray[i]! = s[i]
  rw [getElem!_pos s.toArray i (by simpa using h)]
  simp
set_option maxHeartbeats 4000000 in
set_option maxRecDepth 100000 in
/-- The first of these bytes, of a short text, whatever its bytes are. -/
theorem idxA_short (s : List UInt8) (h8 : s.length ≤ 8) (w : World) :
    Calls Tryz.prog 87 #[.string ⟨s.toArray⟩, .string ⟨#[58, 47, 63, 35]⟩] w fun e w' => e = .returned (.int .i64 (ixU s)) ∧ Bl w w' := by
  have h8z : decide ((8 : Int) < (s.length : Int)) = false := decide_eq_false (by omega)
  have SC := Lib.hid (fun W => (Tryz.strings_shouldUseASCIISet (s.length : Int) W).mono fun e w' ⟨h1, h2⟩ => (⟨by rw [h1, h8z], h2.symm⟩ : e = Ending.returned (.bool false) ∧ W = w'))
  have RH := Lib.hid (fun r (h : 128 ≤ r) W => idxR_hi r h W)
  clear h8z
  go_enter Tryz.func87, Tryz.ntmps87
  go_wp2_with (go_at_call 118; (with_reducible refine (SC.out _).mono ?_); rintro e w' ⟨rfl, rfl⟩)
  go_loopg [9, 10] s.length (fun g _ _ wx => ∃ i : Nat, i ≤ s.length ∧ s.length ≤ i + g ∧ wx.heap[w.heap.size]? = some (.stringIter ⟨s.toArray⟩ i) ∧ Bl w wx ∧ Hid (Lib.NoAny s cL i))
  case atStart => exact ⟨0, by omega, by omega, World.iter_heap _ _ _, iter_bl _ _ _, Lib.hid (Lib.NoAny.zero _ _)⟩
  case round =>
    obtain ⟨i, hi, hig, hit, hbl, HN⟩ := hrel
    have hws : w.heap.size ≤ wr.heap.size := Below.size hbl
    by_cases hlt : i < s.length
    · obtain ⟨g, rfl⟩ : ∃ g, gk = g + 1 := ⟨gk - 1, by omega⟩
      have hlt' : i < (⟨s.toArray⟩ : ByteArray).size := by simpa [ByteArray.size] using hlt
      obtain ⟨x, hx⟩ : ∃ x : UInt8, s[i] = x := ⟨_, rfl⟩
      have HX := Lib.hid (show s[i]? = some x by rw [List.getElem?_eq_getElem hlt, hx])
      by_cases ha : x.toNat < 128
      · have hnx := fun ty => Lib.run_next_ascii_at (P := Tryz.prog) wr w.heap.size ⟨s.toArray⟩ i ty hit hlt' (by rw [mk_get, hx]; exact ha)
        replace hnx : ∀ ty, _ = _ := hnx
        rw [mk_get, hx] at hnx
        have hit2 := Lib.iterAt_heap wr w.heap.size ⟨s.toArray⟩ i (i + 1) hit
        have hbl2 : Bl w (wr.iterAt w.heap.size ⟨s.toArray⟩ (i + 1)) := Lib.below_iterAt hbl (Nat.le_refl _) _ _
        obtain ⟨W, hW⟩ : ∃ W, wr.iterAt w.heap.size ⟨s.toArray⟩ (i + 1) = W := ⟨_, rfl⟩
        rw [hW] at hnx hit2 hbl2
        have e1 : ((x.toNat : Int)).toNat.toUInt8 = x := by simp
        have RC := Lib.hid (fun V => (Tryz.strings_IndexRune_ascii ⟨#[58, 47, 63, 35]⟩ (x.toNat : Int) V (by omega) (by omega)).mono fun e w' ⟨h1, h2⟩ => (⟨by rw [h1, e1]; rfl, h2.symm⟩ : e = Ending.returned (.int .i64 (Lib.indexByte cL x)) ∧ V = w'))
        have HI := Lib.hid (Lib.contains_iff_indexByte cL x)
        clear e1 hx hW hit hlt'
        obtain ⟨k, hk⟩ : ∃ k, k = Lib.indexByte cL x := ⟨_, rfl⟩
        rw [← hk] at RC HI
        clear hk
        by_cases hc : (0 : Int) ≤ k
        · have HC := Lib.hid (show cL.contains x = true by rw [HI.out]; exact decide_eq_true hc)
          go_wp2_with (go_at_call 117; (with_reducible refine (RC.out _).mono ?_); rintro e w' ⟨rfl, rfl⟩)
          go_ret
          exact ⟨ret_int (Lib.indexAny_hit HN.out HX.out HC.out).symm, hbl2⟩
        · have HC := Lib.hid (show cL.contains x = false by rw [HI.out]; exact decide_eq_false hc)
          go_wp2_with (go_at_call 117; (with_reducible refine (RC.out _).mono ?_); rintro e w' ⟨rfl, rfl⟩)
          go_roundg g
          case measure => omega
          case rel => exact ⟨i + 1, by omega, by omega, hit2, hbl2, Lib.hid (HN.out.succ HX.out HC.out)⟩
      · obtain ⟨R, hR⟩ : ∃ R, (Utf8.decode ⟨s.toArray⟩ i).1 = R := ⟨_, rfl⟩
        obtain ⟨K, hK⟩ : ∃ K, (Utf8.decode ⟨s.toArray⟩ i).2 = K := ⟨_, rfl⟩
        have hd := dec_hi ⟨s.toArray⟩ i (by rw [get_at s i hlt, hx]; omega)
        have hwd := Lib.width_pos ⟨s.toArray⟩ i
        have hwn : i + (Utf8.decode ⟨s.toArray⟩ i).2 ≤ (⟨s.toArray⟩ : ByteArray).size := by
          have := Lib.decodeN_le_n' ((⟨s.toArray⟩ : ByteArray).size - i) ((⟨s.toArray⟩ : ByteArray).get! i).toNat ((⟨s.toArray⟩ : ByteArray).get! (i + 1)).toNat ((⟨s.toArray⟩ : ByteArray).get! (i + 2)).toNat ((⟨s.toArray⟩ : ByteArray).get! (i + 3)).toNat (by omega)
          rw [← Lib.decode_at] at this
          omega
        have hnx := fun ty => Lib.run_next_any_at (P := Tryz.prog) wr w.heap.size ⟨s.toArray⟩ i ty hit hlt'
        have hsz : (⟨s.toArray⟩ : ByteArray).size = s.length := by simp [ByteArray.size]
        rw [hR, hK] at hd
        rw [hK, hsz] at hwn
        rw [hK] at hwd
        replace hnx : ∀ ty, _ = _ := hnx
        rw [hR, hK] at hnx
        have hit2 := Lib.iterAt_heap wr w.heap.size ⟨s.toArray⟩ i (i + K) hit
        have hbl2 : Bl w (wr.iterAt w.heap.size ⟨s.toArray⟩ (i + K)) := Lib.below_iterAt hbl (Nat.le_refl _) _ _
        obtain ⟨W, hW⟩ : ∃ W, wr.iterAt w.heap.size ⟨s.toArray⟩ (i + K) = W := ⟨_, rfl⟩
        rw [hW] at hnx hit2 hbl2
        have hlt2 : w.heap.size < W.heap.size := (Array.getElem?_eq_some_iff.1 hit2).1
        have HN2 := Lib.hid (show Lib.NoAny s cL (i + K) from fun j b hj hb => by
          by_cases e : j < i
          · exact HN.out j b e hb
          · obtain ⟨hjl, e2⟩ := List.getElem?_eq_some_iff.1 hb
            have h3 := hd.2 j (by omega) (by omega)
            rw [get_at s j hjl, e2] at h3
            rw [cL_stop]
            unfold stopU
            simp
            omega)
        have RC := Lib.hid (RH.out R hd.1)
        clear hR hK hW hit hlt' hd hx ha RH
        go_wp2_with (go_at_call 117; (with_reducible refine (RC.out _).mono ?_); rintro e w' ⟨rfl, hb2⟩)
        go_roundg g
        case measure => omega
        case rel => exact ⟨i + K, by omega, by omega, (Below.block hb2 w.heap.size hlt2).trans hit2, hbl2.trans hb2, Lib.hid HN2.out⟩
    · obtain rfl : i = s.length := by omega
      have hne := fun ty => Lib.run_next_end_at (P := Tryz.prog) wr w.heap.size ⟨s.toArray⟩ s.length ty hit (by simp [ByteArray.size])
      clear hit
      go_wp2
      go_ret
      exact ⟨ret_int (by unfold ixU; rw [Lib.indexAny_none HN.out]), hbl⟩
theorem zv_set (w : World) : (zeroValue 142).run Tryz.prog w = .ok (.agg (Array.replicate 256 (.bool false))) w := by kernel_rfl
theorem idxA_c (s : List UInt8) (hs : s.length ≤ 4294967280) (w : World) :
    Calls Tryz.prog 87 #[.string ⟨s.toArray⟩, .string ⟨#[58, 47, 63, 35]⟩] w fun e w' => e = .returned (.int .i64 (ixU s)) ∧ Bl w w' := by
  by_cases h8 : s.length ≤ 8
  · exact idxA_short s h8 w
  · refine (Tryz.strings_IndexAny_long zv_set ⟨s.toArray⟩ ⟨#[58, 47, 63, 35]⟩ w (by decide) (by simp [ByteArray.size]; omega) (by simp [ByteArray.size]; omega) (by decide) (fun j b hj => ?_)).mono ?_
    · have hb : b ∈ cL := List.mem_of_getElem? hj
      unfold cL at hb
      simp only [List.mem_cons, List.not_mem_nil, or_false] at hb
      rcases hb with rfl | rfl | rfl | rfl <;> decide
    · rintro e w' ⟨rfl, rfl⟩
      exact ⟨rfl, ((Bl.refl _).alloc _).alloc _⟩
end Go.Proofs.YthnpljkekhieiaaGreatDoor

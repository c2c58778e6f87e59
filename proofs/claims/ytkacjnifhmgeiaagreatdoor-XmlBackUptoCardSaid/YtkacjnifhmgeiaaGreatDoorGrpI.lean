/- Tokens: attributes that are read. · Trees: slices.Clone of attributes; put of a text. · Tokens: the call's own tokens in memory; flush. · Tokens: tag; step. · Trees: a row appended to an own row; attributes cloned as an own row. -/
import Derived.Test.YtkacjnifhmgeiaaGreatDoorTokH
import Derived.Deep.Cut
import Derived.Deep.CutRange
import Derived.Deep.DeepCutAuto
import Derived.Test.YtkacjnifhmgeiaaGreatDoorGrpH
import Derived.Deep.RegionLaw
import Derived.Laws.OwnMore
namespace Go.Proofs.YtkacjnifhmgeiaaGreatDoor
open Go.RowKit

def atC (l : List Atr) : List Value := l.flatMap fun a => [.string ⟨a.1.toArray⟩, .string ⟨a.2.toArray⟩]
theorem atC_len (l : List Atr) : (atC l).length = l.length * 2 := by
  induction l with
  | nil => rfl
  | cons a l ih => simp only [atC, List.flatMap_cons, List.length_append, List.length_cons, List.length_nil] at *; omega
theorem atC_snoc (l : List Atr) (a : Atr) : atC (l ++ [a]) = atC l ++ [.string ⟨a.1.toArray⟩, .string ⟨a.2.toArray⟩] := by simp [atC]
theorem atC_get : ∀ (l : List Atr) (i : Nat) (h : i < l.length), (atC l)[i * 2]? = some (.string ⟨l[i].1.toArray⟩) ∧ (atC l)[i * 2 + 1]? = some (.string ⟨l[i].2.toArray⟩) := by
  intro l
  induction l with
  | nil => intro i h; simp at h
  | cons a l ih =>
    intro i h
    cases i with
    | zero => simp [atC]
    | succ i =>
      have := ih i (by simpa using h)
      have e : (i + 1) * 2 = i * 2 + 1 + 1 := by omega
      rw [e]
      simp only [atC, List.flatMap_cons, List.cons_append, List.nil_append, List.getElem?_cons_succ, List.getElem_cons_succ] at *
      exact this
/-- The call's own attributes. -/
def AtO (w : World) (base : Nat) (v : Value) (l : List Atr) : Prop := w.ownsRow base 39 2 v l.length (atC l)
theorem AtO.ats {w : World} {base : Nat} {v : Value} {l : List Atr} (h : AtO w base v l) : AtS w v l := by
  have h' := h
  rcases h.2 with ⟨rfl, h0⟩ | ⟨g, cap, cur, rfl, -, hg, -⟩
  · exact ⟨none, 0, by rw [h0], fun i hi => by omega⟩
  · refine ⟨_, cap, rfl, fun i hi => ⟨g, 0, rfl, (Array.getElem?_eq_some_iff.1 hg).1, ?_, ?_⟩⟩
    · have := World.ownsRow.cells h' (g := g) rfl _ _ (atC_get l i hi).1
      by_cases e : i = 0
      · subst e; simpa [Addr.add] using this
      · have e2 : i * 2 ≠ 0 := by omega
        simpa only [Addr.add, if_neg e2, Nat.zero_add] using this
    · have := World.ownsRow.cells h' (g := g) rfl _ _ (atC_get l i hi).2
      simpa [Addr.add] using this
theorem AtO.of_gb {w w' : World} {base : Nat} {v : Value} {l : List Atr} {b : Nat} (h : AtO w base v l) (hg : w.grownBy w' (some b)) (hb : b < base) : AtO w' base v l :=
  World.ownsRow.kept h hg (by
    cases hv : v.ownBlock with
    | none => exact Or.inl rfl
    | some k => right; have := (World.ownsRow.lt h k hv).1; simp; omega)
theorem Tryz.infoAtr : (Tryz.prog.info? 39).map (fun i => (i.zero, i.size, i.bytes)) = some (some (.agg #[.string ⟨#[]⟩, .string ⟨#[]⟩]), 2, 32) := by kernel_rfl
theorem gb_fresh {w w' : World} {b : Nat} {g : Option Nat} {w0 : World} (h0 : w0.grownBy w (some b)) (h : w.grownBy w' g) (hg : ∀ k, g = some k → w0.heap.size ≤ k) : w0.grownBy w' (some b) :=
  ⟨h.os.trans h0.os, h.tape.trans h0.tape, h.output.trans h0.output, Nat.le_trans h0.size h.size, fun k hk hne => (h.block k (Nat.lt_of_lt_of_le hk h0.size) (fun e => by have := hg k e.symm; omega)).trans (h0.block k hk hne)⟩

theorem is61_iff (d : UInt8) : is61 d = true ↔ d = 61 := by
  simp only [is61, decide_eq_true_eq]
  exact ⟨fun h => UInt8.toNat_inj.1 h, fun h => by rw [h]; rfl⟩
theorem oneAt_no61 (c : UInt8) (r : List UInt8) (h : hd is61 ((r.dropWhile nch).dropWhile wht) = false) : oneAt c r = some ((fold (c :: r.takeWhile nch), []), (r.dropWhile nch).dropWhile wht) := by
  unfold oneAt
  split
  · rename_i e; rw [e]
  · rename_i d s e
    rw [e] at h ⊢
    rw [if_neg (by rintro rfl; simp [hd, is61] at h)]
theorem oneAt_61 (c : UInt8) (r : List UInt8) (h : hd is61 ((r.dropWhile nch).dropWhile wht) = true) : ∃ s, (r.dropWhile nch).dropWhile wht = 61 :: s ∧ oneAt c r = (match valOf s with | none => none | some (v, u) => some ((fold (c :: r.takeWhile nch), (Tk v).1), u)) := by
  unfold oneAt
  split
  · rename_i e; rw [e] at h; exact absurd h (by decide)
  · rename_i d s e
    rw [e] at h ⊢
    obtain rfl := (is61_iff d).1 h
    exact ⟨s, rfl, by rw [if_pos rfl]; rcases valOf s with _ | ⟨_, _⟩ <;> rfl⟩

/-- A variable that holds an attribute. -/
def Ab (w : World) (q : Nat) (n y : List UInt8) : Prop := q < w.heap.size ∧ w.cell? ⟨q, 0, none⟩ = some (.string ⟨n.toArray⟩) ∧ w.cell? ⟨q, 1, none⟩ = some (.string ⟨y.toArray⟩) ∧ w.frozen? ⟨q, 0, none⟩ = false ∧ w.frozen? ⟨q, 1, none⟩ = false
theorem Ab.of_gb {w w' : World} {q b : Nat} {n y : List UInt8} (h : Ab w q n y) (hg : w.grownBy w' (some b)) (hne : q ≠ b) : Ab w' q n y := by
  have hb := hg.block q h.1 (by simpa using hne)
  exact ⟨Nat.lt_of_lt_of_le h.1 hg.size, (World.cell?_of_block hb).trans h.2.1, (World.cell?_of_block hb).trans h.2.2.1, (World.frozen?_of_block hb).trans h.2.2.2.1, (World.frozen?_of_block hb).trans h.2.2.2.2⟩
theorem Ab.of_bl {w w' : World} {q : Nat} {n y : List UInt8} (h : Ab w q n y) (hb : Bl w w') : Ab w' q n y :=
  ⟨Nat.lt_of_lt_of_le h.1 (Below.size hb), (hb.cells.1 q 0 h.1).trans h.2.1, (hb.cells.1 q 1 h.1).trans h.2.2.1, (hb.cells.2 q 0 h.1).trans h.2.2.2.1, (hb.cells.2 q 1 h.1).trans h.2.2.2.2⟩
theorem gb_setnew {w W : World} {g : Option Nat} (h : w.grownBy W g) {q : Nat} (hq : w.heap.size ≤ q) (o : Nat) (v : Value) : w.grownBy (W.setCell ⟨q, o, none⟩ v) g :=
  ⟨h.os, h.tape, h.output, by simpa using h.size, fun k hk hne => (Below.heap_setCell W ⟨q, o, none⟩ v k (by simp; omega)).trans (h.block k hk hne)⟩
theorem new_kept2 {W W' : World} {x y : Value} {t : TypeId} {C : Prop} (hb : Bl (W.alloc (.cells #[x, y] t)).drew W') (k : W.heap.size < W'.heap.size → W'.cell? ⟨W.heap.size, 0, none⟩ = some x → W'.cell? ⟨W.heap.size, 1, none⟩ = some y → W'.frozen? ⟨W.heap.size, 0, none⟩ = false → W'.frozen? ⟨W.heap.size, 1, none⟩ = false → C) : C := by
  have hlt : W.heap.size < (W.alloc (.cells #[x, y] t)).drew.heap.size := by simp
  refine k (Nat.lt_of_lt_of_le hlt (Below.size hb)) ?_ ?_ ?_ ?_
  · rw [hb.cells.1 _ 0 hlt]; simp
  · rw [hb.cells.1 _ 1 hlt]; simp
  · rw [hb.cells.2 _ 0 hlt]; simp
  · rw [hb.cells.2 _ 1 hlt]; simp

theorem b0_drew (w : World) : Bl w w.drew := (Bl.refl w).drew
theorem AtO.of_bl {w w' : World} {base : Nat} {v : Value} {l : List Atr} (h : AtO w base v l) (hb : Bl w w') : AtO w' base v l :=
  World.ownsRow.kept h (gb_bl (b := none) hb) (by cases hv : v.ownBlock <;> simp)
theorem addA_no {out : List Atr} {n y : List UInt8} (h : isNm n = false) : addA out (n, y) = out := by unfold addA; simp [h]
theorem addA_there {out : List Atr} {n y : List UInt8} (h : out.any (isN n) = true) : addA out (n, y) = out := by
  unfold addA
  have : (out.any fun x => x.1 == n) = true := h
  simp [this]
theorem addA_new {out : List Atr} {n y : List UInt8} (h : isNm n = true) (h2 : out.any (isN n) = false) : addA out (n, y) = out ++ [(n, y)] := by
  unfold addA
  have : (out.any fun x => x.1 == n) = false := h2
  rw [if_pos (by simp [h, this])]

theorem ES.of_gb {w W : World} {b : Nat} (h : ES w) (hg : w.grownBy W (some b)) (hb : 1 < b) : ES W := by
  obtain ⟨te, pe, h1, h2⟩ := h
  exact ⟨te, pe, Nat.lt_of_lt_of_le h1 hg.size, hg.cell h2 (by simp; omega)⟩
theorem Ab.set1 {w : World} {q : Nat} {n z : List UInt8} (h : Ab w q n z) (y : List UInt8) : Ab (w.setCell ⟨q, 1, none⟩ (.string ⟨y.toArray⟩)) q n y := by
  obtain ⟨h0, h1, h2, h3, h4⟩ := h
  refine ⟨by simpa using h0, ?_, ?_, by rw [World.frozen?_setCell]; exact h3, by rw [World.frozen?_setCell]; exact h4⟩
  · rw [World.cell?_setCell_other _ _ _ _ (by simp)]; exact h1
  · rw [World.cell?_setCell_same _ _ _ h2]

end Go.Proofs.YtkacjnifhmgeiaaGreatDoor

namespace Go.Proofs.YtkacjnifhmgeiaaGreatDoor
open Go.RowKit

theorem add_spot (g o j : Nat) : (⟨g, o, none⟩ : Addr).add j = ⟨g, o + j, none⟩ := by unfold Addr.add; split <;> simp_all
theorem atC_at : ∀ (l : List Atr) (j : Nat) (u : Value), (atC l)[j]? = some u → ∃ i, ∃ h : i < l.length, (j = i * 2 ∧ u = .string ⟨l[i].1.toArray⟩) ∨ (j = i * 2 + 1 ∧ u = .string ⟨l[i].2.toArray⟩) := by
  intro l
  induction l with
  | nil => intro j u h; simp [atC] at h
  | cons a l ih =>
    intro j u h
    have e : atC (a :: l) = .string ⟨a.1.toArray⟩ :: .string ⟨a.2.toArray⟩ :: atC l := rfl
    rw [e] at h
    match j, h with
    | 0, h => exact ⟨0, by simp, .inl ⟨rfl, by simpa using h.symm⟩⟩
    | 1, h => exact ⟨0, by simp, .inr ⟨rfl, by simpa using h.symm⟩⟩
    | j + 2, h =>
      obtain ⟨i, hi, h2⟩ := ih j u (by simpa using h)
      refine ⟨i + 1, by simp; omega, ?_⟩
      rcases h2 with ⟨e1, e2⟩ | ⟨e1, e2⟩
      · exact .inl ⟨by omega, by simpa using e2⟩
      · exact .inr ⟨by omega, by simpa using e2⟩
theorem atC_one (l : List Atr) : ∀ u ∈ atC l, u.oneCell' = true := by
  intro u hu
  obtain ⟨j, hj, rfl⟩ := List.mem_iff_getElem.1 hu
  obtain ⟨i, hi, h⟩ := atC_at l j _ (List.getElem?_eq_getElem hj)
  rcases h with ⟨_, e⟩ | ⟨_, e⟩ <;> rw [e] <;> rfl
theorem ats_news {w : World} {g o c : Nat} {l : List Atr} (h : AtS w (.slice (some ⟨g, o, none⟩) l.length c) l) : ∀ j u, (atC l)[j]? = some u → w.cell? ((⟨g, o, none⟩ : Addr).add j) = some u := by
  intro j u hj
  obtain ⟨ao, cap, e, h⟩ := h
  cases e
  rw [add_spot]
  obtain ⟨i, hi, h2⟩ := atC_at l j u hj
  obtain ⟨g', o', e, _, h3, h4⟩ := h i hi
  cases e
  rcases h2 with ⟨rfl, rfl⟩ | ⟨rfl, rfl⟩
  · exact h3
  · rw [← Nat.add_assoc]; exact h4
theorem AtO.atp {w : World} {base : Nat} {v : Value} {l : List Atr} (h : AtO w base v l) : AtP w (fun k => base ≤ k ∧ k < w.heap.size) v l := by
  have h2 := h.ats
  obtain ⟨ao, cap, rfl, hc⟩ := h2
  have hcap : l.length ≤ cap := by
    rcases h.2 with ⟨e, h0⟩ | ⟨g, cap', cur, e, _, _, hnc, _⟩
    · simp only [Value.slice.injEq] at e; omega
    · simp only [Value.slice.injEq] at e; omega
  refine ⟨ao, cap, rfl, hcap, fun i hi => ?_⟩
  obtain ⟨g, o, rfl, h3, h4, h5⟩ := hc i hi
  exact ⟨g, o, rfl, h3, ⟨((World.ownsRow.lt h) g rfl).1, h3⟩, h4, h5⟩
theorem iv_lsX {s : St} (h : Iv s) : ∃ r, ckL r false (lsX s.1 s.2) = 0 := by
  obtain ⟨r, f⟩ := s
  cases f with
  | nil => exact ⟨_, h.2.1⟩
  | cons c f => obtain ⟨n, a, k⟩ := c; exact ⟨_, h.1.2.2.2.2.2.1⟩
theorem ntx_lsX (s : St) : (ntxL (lsX s.1 s.2)).length ≤ (ntxS s).length := by
  obtain ⟨r, f⟩ := s
  cases f with
  | nil => simp [lsX, ntxS]
  | cons c f => obtain ⟨n, a, k⟩ := c; simp [lsX, ntxS, ntxF]; omega
end Go.Proofs.YtkacjnifhmgeiaaGreatDoor

namespace Go.Proofs.YtkacjnifhmgeiaaGreatDoor
open Go.RowKit

/-- append to an own slice, as one step of a region that draws. -/
theorem step_append_own {P : Program} {ops : Array Oper} {o : Oper} {a : Act} {w : World} {K : Act → World → Prop} {Q : Exit → Act → World → Prop} {E : Prop}
    (hgd : o.guard = none) (s x : Operand) (t : TypeId) (hop : o.op = Op.call { callee := Callee.builtin Builtin.append, args := #[s, x], argTypes := #[t, t] })
    (base : Nat) (e : TypeId) (i : TypeInfo) (z : Value) (size bytes : Nat) (ht : P.underlying t = some (.slice e)) (hi : P.info? e = some i) (hz : i.zero = some z)
    (hsize : i.size = size) (hby : i.bytes = bytes) (hzs : z.cells.size = size) (hsz : 0 < size)
    (v : Value) (n : Nat) (xs : List Value) (hs : a.eval s = v) (hown : w.ownsRow base e size v n xs)
    (ad : Addr) (m c : Nat) (news : List Value) (hx : a.eval x = .slice (some ad) m c) (hl : news.length = m * size) (hnews : ∀ j u, news[j]? = some u → w.cell? (ad.add j) = some u) (h1 : ∀ u ∈ news, u.oneCell' = true)
    (h63 : n + m ≤ maxLen) (hbytes : (n + m) * bytes ≤ 140737488355328) (hbase : base ≤ w.heap.size)
    (hK : ∀ v' w', w'.ownsRow base e size v' (n + m) (xs ++ news) → w.grownBy w' v.ownBlock → K (a.put o.dst v') w') :
    if Region.wanted o (yielded ops a.tmps) = true then Oper.wp P o a w K Q else E := by
  have hw : Region.wanted o (yielded ops a.tmps) = true := by simp [Region.wanted, hgd]
  rw [if_pos hw]
  obtain ⟨v', w', hrun, h2, h3, -⟩ := run_append_own (P := P) w base t o.type e i z size bytes ht hi hz hsize hby hzs hsz v n xs hown ad m c news hl hnews h1 h63 hbytes hbase
  unfold Oper.wp
  simp [execOp, hop, resolve, invoke, builtin, hs, hx, hrun, Result.andThen]
  exact hK v' w' h2 h3

def tkC (l : List (Tok × Value)) : List Value := l.flatMap fun p => [.int .i64 p.1.1, .string ⟨p.1.2.1.toArray⟩, p.2, .string ⟨p.1.2.2.2.toArray⟩]
theorem tkC_snoc (l : List (Tok × Value)) (p : Tok × Value) : tkC (l ++ [p]) = tkC l ++ [.int .i64 p.1.1, .string ⟨p.1.2.1.toArray⟩, p.2, .string ⟨p.1.2.2.2.toArray⟩] := by simp [tkC]
theorem tkC_get : ∀ (l : List (Tok × Value)) (i : Nat) (h : i < l.length), (tkC l)[i * 4]? = some (.int .i64 l[i].1.1) ∧ (tkC l)[i * 4 + 1]? = some (.string ⟨l[i].1.2.1.toArray⟩) ∧ (tkC l)[i * 4 + 2]? = some l[i].2 ∧ (tkC l)[i * 4 + 3]? = some (.string ⟨l[i].1.2.2.2.toArray⟩) := by
  intro l
  induction l with
  | nil => intro i h; simp at h
  | cons a l ih =>
    intro i h
    cases i with
    | zero => simp [tkC]
    | succ i =>
      have := ih i (by simpa using h)
      have e : (i + 1) * 4 = i * 4 + 1 + 1 + 1 + 1 := by omega
      rw [e]
      simp only [tkC, List.flatMap_cons, List.cons_append, List.nil_append, List.getElem?_cons_succ, List.getElem_cons_succ] at *
      exact this
theorem gb_own {w : World} {base : Nat} {e : TypeId} {size n : Nat} {v : Value} {xs : List Value} {b : Nat} (h : w.ownsRow base e size v n xs) (hb : b < base) : v.ownBlock = none ∨ v.ownBlock ≠ some b := by
  cases hv : v.ownBlock with
  | none => exact Or.inl rfl
  | some k => right; have := (World.ownsRow.lt h k hv).1; simp; omega
/-- Rows of two types are two rows. -/
theorem two_rows {w : World} {b1 b2 : Nat} {e1 e2 : TypeId} {s1 s2 n1 n2 : Nat} {v1 v2 : Value} {x1 x2 : List Value} (h1 : w.ownsRow b1 e1 s1 v1 n1 x1) (h2 : w.ownsRow b2 e2 s2 v2 n2 x2) (he : e1 ≠ e2) : v1.ownBlock = none ∨ v1.ownBlock ≠ v2.ownBlock := by
  rcases h1.2 with ⟨rfl, _⟩ | ⟨g1, c1, u1, rfl, _, hg1, _⟩
  · exact Or.inl rfl
  · rcases h2.2 with ⟨rfl, _⟩ | ⟨g2, c2, u2, rfl, _, hg2, _⟩
    · right; simp [Value.ownBlock]
    · right
      simp only [Value.ownBlock, ne_eq, Option.some.injEq]
      rintro rfl
      rw [hg1] at hg2
      exact he (by simpa using (Option.some.inj hg2 |> Obj.cells.inj).2.1)
theorem AtO.nil (w : World) (base : Nat) : AtO w base (.slice none 0 0) [] := World.ownsRow_nil _ _ _ _
theorem ES.of_below {w W : World} {b : Nat} (h : ES w) (hb : Below b w W) (hE : 1 < b) : ES W := by
  obtain ⟨te, pe, h1, h2⟩ := h
  exact ⟨te, pe, Nat.lt_of_lt_of_le h1 (Below.size hb), (Below.cell hb (p := ⟨1, 0, none⟩) hE).trans h2⟩
theorem ML.of_below {w W : World} {b : Nat} (h : ML w) (hb : Below b w W) (hE : 0 < b) : ML W := by
  obtain ⟨m, h1, h2⟩ := h
  exact ⟨m, Nat.lt_of_lt_of_le h1 (Below.size hb), (Below.cell hb (p := ⟨0, 0, none⟩) hE).trans h2⟩
theorem below_gb {w W : World} {b k : Nat} (h : w.grownBy W (some b)) (hk : k ≤ b) (hs : k ≤ w.heap.size) : Below k w W :=
  ⟨h.os, h.tape, h.output, h.size, fun i hi => h.block i (by omega) (by simp; omega)⟩
theorem below_gr {w W : World} {g : Option Nat} {k : Nat} (h : w.grownBy W g) (hk : ∀ j, g = some j → k ≤ j) (hs : k ≤ w.heap.size) : Below k w W :=
  ⟨h.os, h.tape, h.output, h.size, fun i hi => h.block i (by omega) (fun e => by have := hk i e.symm; omega)⟩

theorem own_shape {w : World} {base : Nat} {e : TypeId} {size n : Nat} {v : Value} {xs : List Value} (h : w.ownsRow base e size v (n + 1) xs) : ∃ g c, v = .slice (some ⟨g, 0, none⟩) (n + 1) c := by
  rcases h.2 with ⟨_, h0⟩ | ⟨g, cap, cur, rfl, _⟩
  · omega
  · exact ⟨g, cap, rfl⟩
/-- Block b and row g alone have turned; there may be more. -/
structure Fr2 (b : Nat) (g : Option Nat) (w w' : World) : Prop where
  os : w'.os = w.os
  tape : w'.tape = w.tape
  output : w'.output = w.output
  size : w.heap.size ≤ w'.heap.size
  block : ∀ k, k < w.heap.size → k ≠ b → some k ≠ g → w'.heap[k]? = w.heap[k]?
theorem Fr2.of_gb {b : Nat} {g : Option Nat} {w w' : World} (h : w.grownBy w' (some b)) : Fr2 b g w w' := ⟨h.os, h.tape, h.output, h.size, fun k hk h1 _ => h.block k hk (by simpa using h1)⟩
theorem Fr2.of_gr {b : Nat} {g : Option Nat} {w w' : World} (h : w.grownBy w' g) : Fr2 b g w w' := ⟨h.os, h.tape, h.output, h.size, fun k hk _ h2 => h.block k hk h2⟩
theorem Fr2.trans {b : Nat} {g : Option Nat} {x y z : World} (h : Fr2 b g x y) (k : Fr2 b g y z) : Fr2 b g x z :=
  ⟨k.os.trans h.os, k.tape.trans h.tape, k.output.trans h.output, Nat.le_trans h.size k.size, fun i hi h1 h2 => (k.block i (Nat.lt_of_lt_of_le hi h.size) h1 h2).trans (h.block i hi h1 h2)⟩
theorem Fr2.below {b : Nat} {g : Option Nat} {w w' : World} (h : Fr2 b g w w') (hg : ∀ j, g = some j → b < j) (hs : b ≤ w.heap.size) : Below b w w' :=
  ⟨h.os, h.tape, h.output, h.size, fun k hk => h.block k (by omega) (by omega) (fun e => by have := hg k e.symm; omega)⟩
theorem own_fr2 {w w' : World} {base : Nat} {e : TypeId} {size n : Nat} {v : Value} {xs : List Value} {b : Nat} {g : Option Nat} (h : w.ownsRow base e size v n xs) (hF : Fr2 b g w w') (hb : b < base) (hg : v.ownBlock = none ∨ v.ownBlock ≠ g) : w'.ownsRow base e size v n xs := by
  refine ⟨h.1, ?_⟩
  rcases h.2 with hn | ⟨k, cap, cur, rfl, hk, hkk, rest⟩
  · exact .inl hn
  · refine .inr ⟨k, cap, cur, rfl, hk, ?_, rest⟩
    rw [hF.block k (Array.getElem?_eq_some_iff.1 hkk).1 (by omega) (by simpa [Value.ownBlock] using hg)]
    exact hkk
end Go.Proofs.YtkacjnifhmgeiaaGreatDoor

namespace Go.Proofs.YtkacjnifhmgeiaaGreatDoor
open Go.RowKit

theorem AtO.shape {w : World} {B : Nat} {v : Value} {l : List Atr} (h : AtO w B v l) : ∃ ao c, v = .slice ao l.length c := by
  rcases h.2 with ⟨rfl, h0⟩ | ⟨g, cap, cur, rfl, _⟩
  · exact ⟨none, 0, by rw [h0]⟩
  · exact ⟨_, cap, rfl⟩
theorem AtO.base_le {w : World} {B B' : Nat} {v : Value} {l : List Atr} (h : AtO w B v l) (hB : B' ≤ B) : AtO w B' v l := by
  refine ⟨h.1, ?_⟩
  rcases h.2 with hn | ⟨k, cap, cur, rfl, hk, rest⟩
  · exact .inl hn
  · exact .inr ⟨k, cap, cur, rfl, Nat.le_trans hB hk, rest⟩
theorem own_bl {w w' : World} {base : Nat} {e : TypeId} {size n : Nat} {v : Value} {xs : List Value} (h : w.ownsRow base e size v n xs) (hb : Bl w w') : w'.ownsRow base e size v n xs :=
  World.ownsRow.kept h (gb_bl (b := none) hb) (by cases hv : v.ownBlock <;> simp)
end Go.Proofs.YtkacjnifhmgeiaaGreatDoor

namespace Go.Proofs.YtkacjnifhmgeiaaGreatDoor
open Go.RowKit

/-- A row that is owned, appended to a row that is owned. -/
theorem run_append_row {P : Program} (w : World) (base base2 : Nat) (t ty e : TypeId) (i : TypeInfo) (z : Value) (size bytes : Nat) (ht : P.underlying t = some (.slice e)) (hi : P.info? e = some i) (hz : i.zero = some z)
    (hsize : i.size = size) (hby : i.bytes = bytes) (hzs : z.cells.size = size) (hsz : 0 < size)
    (v : Value) (n : Nat) (xs : List Value) (hown : w.ownsRow base e size v n xs) (u : Value) (m : Nat) (ys : List Value) (hu : w.ownsRow base2 e size u m ys) (h1 : ∀ x ∈ ys, x.oneCell' = true)
    (h63 : n + m ≤ maxLen) (hbytes : (n + m) * bytes ≤ 140737488355328) (hbase : base ≤ w.heap.size) :
    ∃ v' w', (Builtin.append_ #[t, t] ty #[v, u]).run P w = .ok v' w' ∧ w'.ownsRow base e size v' (n + m) (xs ++ ys) ∧ w.grownBy w' v.ownBlock := by
  have hu' := hu
  rcases hu.2 with ⟨rfl, rfl⟩ | ⟨g, cap, cur, rfl, _, hg, hnc, hcm, hcs, htake⟩
  · have hy : ys = [] := List.eq_nil_of_length_eq_zero (by simpa using hu.1)
    subst hy
    exact ⟨v, w, run_append_owned_none w base t ty e i size ht hi v n xs hown, by simpa using hown, gb_bl (b := v.ownBlock) (Bl.refl w)⟩
  · obtain ⟨v', w', hr, h2, h3, _⟩ := run_append_own (P := P) w base t ty e i z size bytes ht hi hz hsize hby hzs hsz v n xs hown ⟨g, 0, none⟩ m cap ys hu.1 (fun j x hj => World.ownsRow.cells hu' (g := g) rfl _ _ hj) h1 h63 hbytes hbase
    exact ⟨v', w', hr, h2, h3⟩
theorem step_append_row {P : Program} {ops : Array Oper} {o : Oper} {a : Act} {w : World} {K : Act → World → Prop} {Q : Exit → Act → World → Prop} {E : Prop}
    (hgd : o.guard = none) (s x : Operand) (t : TypeId) (hop : o.op = Op.call { callee := Callee.builtin Builtin.append, args := #[s, x], argTypes := #[t, t] })
    (base base2 : Nat) (e : TypeId) (i : TypeInfo) (z : Value) (size bytes : Nat) (ht : P.underlying t = some (.slice e)) (hi : P.info? e = some i) (hz : i.zero = some z)
    (hsize : i.size = size) (hby : i.bytes = bytes) (hzs : z.cells.size = size) (hsz : 0 < size)
    (v : Value) (n : Nat) (xs : List Value) (hs : a.eval s = v) (hown : w.ownsRow base e size v n xs) (u : Value) (m : Nat) (ys : List Value) (hx : a.eval x = u) (hu : w.ownsRow base2 e size u m ys) (h1 : ∀ x ∈ ys, x.oneCell' = true)
    (h63 : n + m ≤ maxLen) (hbytes : (n + m) * bytes ≤ 140737488355328) (hbase : base ≤ w.heap.size)
    (hK : ∀ v' w', w'.ownsRow base e size v' (n + m) (xs ++ ys) → w.grownBy w' v.ownBlock → K (a.put o.dst v') w') :
    if Region.wanted o (yielded ops a.tmps) = true then Oper.wp P o a w K Q else E := by
  have hw : Region.wanted o (yielded ops a.tmps) = true := by simp [Region.wanted, hgd]
  rw [if_pos hw]
  obtain ⟨v', w', hrun, h2, h3⟩ := run_append_row (P := P) w base base2 t o.type e i z size bytes ht hi hz hsize hby hzs hsz v n xs hown u m ys hu h1 h63 hbytes hbase
  unfold Oper.wp
  simp [execOp, hop, resolve, invoke, builtin, hs, hx, hrun, Result.andThen]
  exact hK v' w' h2 h3
theorem wpList_append_row {P : Program} (w : World) {ops : Array Oper} {rest : List Oper} {o : Oper} {a : Act} {Q : Exit → Act → World → Prop} (hgd : o.guard = none) (s x : Operand) (t : TypeId)
    (ho : o.op = .call { callee := .builtin .append, args := #[s, x], argTypes := #[t, t] })
    (base base2 : Nat) (e : TypeId) (i : TypeInfo) (z : Value) (size bytes : Nat) (ht : P.underlying t = some (.slice e)) (hi : P.info? e = some i) (hz : i.zero = some z)
    (hsize : i.size = size) (hby : i.bytes = bytes) (hzs : z.cells.size = size) (hsz : 0 < size)
    (v : Value) (n : Nat) (xs : List Value) (hs : a.eval s = v) (hown : w.ownsRow base e size v n xs) (u : Value) (m : Nat) (ys : List Value) (hx : a.eval x = u) (hu : w.ownsRow base2 e size u m ys) (h1 : ∀ x ∈ ys, x.oneCell' = true)
    (h63 : n + m ≤ maxLen) (hbytes : (n + m) * bytes ≤ 140737488355328) (hbase : base ≤ w.heap.size)
    (h : ∀ v' w', w'.ownsRow base e size v' (n + m) (xs ++ ys) → w.grownBy w' v.ownBlock → wpList P ops Q rest (a.put o.dst v') w') : wpList P ops Q (o :: rest) a w := by
  refine wpList_plain hgd fun K hK => ?_
  obtain ⟨v', w', hr, h2, h3⟩ := run_append_row (P := P) w base base2 t o.type e i z size bytes ht hi hz hsize hby hzs hsz v n xs hown u m ys hu h1 h63 hbytes hbase
  unfold Oper.wp execOp
  simp only [ho, resolve, invoke, builtin, Sem.run_bind, Sem.run_pure, Result.andThen_ok, List.map_toArray, List.map_cons, List.map_nil, hs, hx, hr]
  exact hK _ _ (h v' w' h2 h3)
theorem tkC_one (l : List (Tok × Value)) (h : ∀ p ∈ l, p.2.oneCell' = true) : ∀ u ∈ tkC l, u.oneCell' = true := by
  intro u hu
  simp only [tkC, List.mem_flatMap] at hu
  obtain ⟨p, hp, hu⟩ := hu
  simp only [List.mem_cons, List.not_mem_nil, or_false] at hu
  rcases hu with rfl | rfl | rfl | rfl
  · rfl
  · rfl
  · exact h p hp
  · rfl
theorem tkC_app (l m : List (Tok × Value)) : tkC (l ++ m) = tkC l ++ tkC m := by simp [tkC]
theorem AtO.one {w : World} {base : Nat} {v : Value} {l : List Atr} (h : AtO w base v l) : v.oneCell' = true := by
  obtain ⟨ao, c, rfl⟩ := h.shape; rfl
end Go.Proofs.YtkacjnifhmgeiaaGreatDoor

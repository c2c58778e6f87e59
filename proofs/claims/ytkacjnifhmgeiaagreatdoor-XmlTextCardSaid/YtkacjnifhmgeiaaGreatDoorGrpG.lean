/- Rows of the call's own: append, told whether the row lies where it lay. · Trees in memory: what is read; the call's own. -/
import Derived.Test.YtkacjnifhmgeiaaGreatDoorGrpA
import Derived.ArgAppend
import Derived.Laws.OwnMore
import Derived.Deep.RegionLaw
import Derived.Test.YtkacjnifhmgeiaaGreatDoorGrpB
import Derived.Test.YtkacjnifhmgeiaaGreatDoorTokS
namespace Go.Proofs.YtkacjnifhmgeiaaGreatDoor
open Go.RowKit

/-- A row that has grown lies where it lay, or in a new block. -/
def Grew (w w' : World) (v v' : Value) : Prop :=
  (v'.ownBlock = v.ownBlock ∧ w.grownBy w' v.ownBlock) ∨ (w.grownBy w' none ∧ ∃ k, v'.ownBlock = some k ∧ w.heap.size ≤ k)
theorem run_append_gr {P : Program} (w : World) (base : Nat) (t ty e : TypeId) (i : TypeInfo) (z : Value) (size bytes : Nat) (ht : P.underlying t = some (.slice e)) (hi : P.info? e = some i) (hz : i.zero = some z)
    (hsize : i.size = size) (hby : i.bytes = bytes) (hzs : z.cells.size = size) (hsz : 0 < size)
    (v : Value) (n : Nat) (xs : List Value) (hown : w.ownsRow base e size v n xs)
    (a : Addr) (m c : Nat) (news : List Value) (hl : news.length = m * size) (hnews : ∀ j u, news[j]? = some u → w.cell? (a.add j) = some u) (h1 : ∀ u ∈ news, u.oneCell' = true)
    (hm : 0 < m) (h63 : n + m ≤ maxLen) (hbytes : (n + m) * bytes ≤ 140737488355328) (hbase : base ≤ w.heap.size) :
    ∃ v' w', (Builtin.append_ #[t, t] ty #[v, .slice (some a) m c]).run P w = .ok v' w' ∧ w'.ownsRow base e size v' (n + m) (xs ++ news) ∧ Grew w w' v v' := by
  have up : ∀ {w' : World} {v' : Value} {xs : List Value} {n : Nat}, 0 < n → w'.ownsRow w.heap.size e size v' n xs → w'.ownsRow base e size v' n xs ∧ ∃ k, v'.ownBlock = some k ∧ w.heap.size ≤ k := by
    intro w' v' xs n hn h
    rcases h.2 with ⟨_, h0⟩ | ⟨g, cap, cur, rfl, hg, rest⟩
    · omega
    · exact ⟨⟨h.1, .inr ⟨g, cap, cur, rfl, Nat.le_trans hbase hg, rest⟩⟩, g, rfl, hg⟩
  rcases hown.2 with ⟨rfl, rfl⟩ | ⟨g, cap, cur, rfl, hbg, hg, hnc, hcm, hcs, htake⟩
  · have hx : xs = [] := List.eq_nil_of_length_eq_zero (by simpa using hown.1)
    subst hx
    obtain ⟨v', w', hr, h2, h3, -⟩ := run_append_own (P := P) w w.heap.size t ty e i z size bytes ht hi hz hsize hby hzs hsz (.slice none 0 0) 0 [] (World.ownsRow_nil _ _ _ _) a m c news hl hnews h1 h63 hbytes (Nat.le_refl _)
    obtain ⟨h4, h5⟩ := up (by omega) h2
    exact ⟨v', w', hr, h4, .inr ⟨h3, h5⟩⟩
  · by_cases hroom : n + m ≤ cap
    · obtain ⟨w', hr, h2, h3⟩ := run_append_fits (P := P) w base t ty e i size ht hi hsize g n cap xs hown a m c news hl hnews h1 hroom
      exact ⟨_, w', hr, h2, .inl ⟨rfl, h3⟩⟩
    · obtain ⟨v', w', hr, h2, h3⟩ := run_append_arg_grows (P := P) w t ty e i z size bytes ht hi hz hsize hby hzs hsz ⟨g, 0, none⟩ n cap xs hown.1 (World.ownsRow.cells hown rfl) a m c news hl hnews (by omega) h63 hbytes
      obtain ⟨h4, h5⟩ := up (by omega) h2
      exact ⟨v', w', hr, h4, .inr ⟨h3, h5⟩⟩
theorem wpList_append_gr {P : Program} (w : World) {ops : Array Oper} {rest : List Oper} {o : Oper} {a : Act} {Q : Exit → Act → World → Prop} (hgd : o.guard = none) (s x : Operand) (t : TypeId)
    (ho : o.op = .call { callee := .builtin .append, args := #[s, x], argTypes := #[t, t] })
    (base : Nat) (e : TypeId) (i : TypeInfo) (z : Value) (size bytes : Nat) (ht : P.underlying t = some (.slice e)) (hi : P.info? e = some i) (hz : i.zero = some z)
    (hsize : i.size = size) (hby : i.bytes = bytes) (hzs : z.cells.size = size) (hsz : 0 < size)
    (v : Value) (n : Nat) (xs : List Value) (hs : a.eval s = v) (hown : w.ownsRow base e size v n xs)
    (ad : Addr) (m c : Nat) (news : List Value) (hx : a.eval x = .slice (some ad) m c) (hl : news.length = m * size) (hnews : ∀ j u, news[j]? = some u → w.cell? (ad.add j) = some u) (h1 : ∀ u ∈ news, u.oneCell' = true)
    (hm : 0 < m) (h63 : n + m ≤ maxLen) (hbytes : (n + m) * bytes ≤ 140737488355328) (hbase : base ≤ w.heap.size)
    (h : ∀ v' w', w'.ownsRow base e size v' (n + m) (xs ++ news) → Grew w w' v v' → wpList P ops Q rest (a.put o.dst v') w') : wpList P ops Q (o :: rest) a w := by
  refine wpList_plain hgd fun K hK => ?_
  obtain ⟨v', w', hr, h2, h3⟩ := run_append_gr (P := P) w base t o.type e i z size bytes ht hi hz hsize hby hzs hsz v n xs hown ad m c news hl hnews h1 hm h63 hbytes hbase
  unfold Oper.wp execOp
  simp only [ho, resolve, invoke, builtin, Sem.run_bind, Sem.run_pure, Result.andThen_ok, List.map_toArray, List.map_cons, List.map_nil, hs, hx, hr]
  exact hK _ _ (h v' w' h2 h3)
theorem step_append_gr {P : Program} {ops : Array Oper} {o : Oper} {a : Act} {w : World} {K : Act → World → Prop} {Q : Exit → Act → World → Prop} {E : Prop}
    (hgd : o.guard = none) (s x : Operand) (t : TypeId) (hop : o.op = Op.call { callee := Callee.builtin Builtin.append, args := #[s, x], argTypes := #[t, t] })
    (base : Nat) (e : TypeId) (i : TypeInfo) (z : Value) (size bytes : Nat) (ht : P.underlying t = some (.slice e)) (hi : P.info? e = some i) (hz : i.zero = some z)
    (hsize : i.size = size) (hby : i.bytes = bytes) (hzs : z.cells.size = size) (hsz : 0 < size)
    (v : Value) (n : Nat) (xs : List Value) (hs : a.eval s = v) (hown : w.ownsRow base e size v n xs)
    (ad : Addr) (m c : Nat) (news : List Value) (hx : a.eval x = .slice (some ad) m c) (hl : news.length = m * size) (hnews : ∀ j u, news[j]? = some u → w.cell? (ad.add j) = some u) (h1 : ∀ u ∈ news, u.oneCell' = true)
    (hm : 0 < m) (h63 : n + m ≤ maxLen) (hbytes : (n + m) * bytes ≤ 140737488355328) (hbase : base ≤ w.heap.size)
    (hK : ∀ v' w', w'.ownsRow base e size v' (n + m) (xs ++ news) → Grew w w' v v' → K (a.put o.dst v') w') :
    if Region.wanted o (yielded ops a.tmps) = true then Oper.wp P o a w K Q else E := by
  have hw : Region.wanted o (yielded ops a.tmps) = true := by simp [Region.wanted, hgd]
  rw [if_pos hw]
  obtain ⟨v', w', hrun, h2, h3⟩ := run_append_gr (P := P) w base t o.type e i z size bytes ht hi hz hsize hby hzs hsz v n xs hown ad m c news hl hnews h1 hm h63 hbytes hbase
  unfold Oper.wp
  simp [execOp, hop, resolve, invoke, builtin, hs, hx, hrun, Result.andThen]
  exact hK v' w' h2 h3
end Go.Proofs.YtkacjnifhmgeiaaGreatDoor


namespace Go.Proofs.YtkacjnifhmgeiaaGreatDoor
open Go.RowKit

/-- A slice of attributes, in a block of some. -/
def AtP (w : World) (P : Nat → Prop) (v : Value) (l : List Atr) : Prop :=
  ∃ ao cap, v = .slice ao l.length cap ∧ l.length ≤ cap ∧ ∀ i (h : i < l.length), ∃ g o, ao = some ⟨g, o, none⟩ ∧ g < w.heap.size ∧ P g ∧ w.cell? ⟨g, o + i * 2, none⟩ = some (.string ⟨l[i].1.toArray⟩) ∧ w.cell? ⟨g, o + i * 2 + 1, none⟩ = some (.string ⟨l[i].2.toArray⟩)
theorem AtP.ats {w : World} {P : Nat → Prop} {v : Value} {l : List Atr} (h : AtP w P v l) : AtS w v l := by
  obtain ⟨ao, cap, rfl, hc, h⟩ := h
  exact ⟨ao, cap, rfl, fun i hi => by obtain ⟨g, o, h1, h2, _, h3, h4⟩ := h i hi; exact ⟨g, o, h1, h2, h3, h4⟩⟩
theorem AtP.cap {w : World} {P : Nat → Prop} {v : Value} {l : List Atr} (h : AtP w P v l) : CapOk v := by
  obtain ⟨ao, cap, rfl, hc, h⟩ := h; exact ⟨_, _, _, rfl, hc⟩
theorem AtP.nil (w : World) (P : Nat → Prop) : AtP w P (.slice none 0 0) [] := ⟨none, 0, rfl, Nat.le_refl _, fun i hi => absurd hi (by simp)⟩
theorem AtP.mono {w : World} {P Q : Nat → Prop} {v : Value} {l : List Atr} (h : AtP w P v l) (hPQ : ∀ k, P k → Q k) : AtP w Q v l := by
  obtain ⟨ao, cap, rfl, hc, h⟩ := h
  exact ⟨ao, cap, rfl, hc, fun i hi => by obtain ⟨g, o, h1, h2, h5, h3, h4⟩ := h i hi; exact ⟨g, o, h1, h2, hPQ _ h5, h3, h4⟩⟩
theorem AtP.of {w : World} {v : Value} {l : List Atr} (h : AtS w v l) (hc : CapOk v) : AtP w (· < w.heap.size) v l := by
  obtain ⟨ao, cap, rfl, h⟩ := h
  obtain ⟨_, _, _, e, hc⟩ := hc
  cases e
  exact ⟨ao, cap, rfl, hc, fun i hi => by obtain ⟨g, o, h1, h2, h3, h4⟩ := h i hi; exact ⟨g, o, h1, h2, h2, h3, h4⟩⟩
/-- The blocks of P are as they were. -/
structure Still (P : Nat → Prop) (w w' : World) : Prop where
  size : w.heap.size ≤ w'.heap.size
  block : ∀ k, k < w.heap.size → P k → w'.heap[k]? = w.heap[k]?
theorem Still.refl (P : Nat → Prop) (w : World) : Still P w w := ⟨Nat.le_refl _, fun _ _ _ => rfl⟩
theorem Still.trans {P : Nat → Prop} {a b c : World} (h : Still P a b) (k : Still P b c) : Still P a c :=
  ⟨Nat.le_trans h.size k.size, fun i hi hp => (k.block i (Nat.lt_of_lt_of_le hi h.size) hp).trans (h.block i hi hp)⟩
theorem Still.of_bl {P : Nat → Prop} {w w' : World} (h : Bl w w') : Still P w w' := ⟨Below.size h, fun k hk _ => Below.block h k hk⟩
theorem Still.of_gr {P : Nat → Prop} {w w' : World} {g : Option Nat} (h : w.grownBy w' g) (hg : ∀ k, g = some k → ¬ P k) : Still P w w' :=
  ⟨h.size, fun k hk hp => h.block k hk (fun e => hg k e.symm hp)⟩
theorem Still.mono {P Q : Nat → Prop} {w w' : World} (h : Still P w w') (hQ : ∀ k, Q k → P k) : Still Q w w' := ⟨h.size, fun k hk hq => h.block k hk (hQ k hq)⟩
theorem Still.set {P : Nat → Prop} (w : World) (b o : Nat) (v : Value) (hb : ¬ P b) : Still P w (w.setCell ⟨b, o, none⟩ v) :=
  ⟨by simp, fun k hk hp => by
    have : b ≠ k := fun e => hb (e ▸ hp)
    unfold World.setCell
    simp [Array.getElem?_modify, this]⟩
theorem Still.cell {P : Nat → Prop} {w w' : World} (h : Still P w w') {g o : Nat} (hg : g < w.heap.size) (hp : P g) : w'.cell? ⟨g, o, none⟩ = w.cell? ⟨g, o, none⟩ :=
  World.cell?_of_block (h.block g hg hp)
theorem AtP.still {w w' : World} {P : Nat → Prop} {v : Value} {l : List Atr} (h : AtP w P v l) (hs : Still P w w') : AtP w' P v l := by
  obtain ⟨ao, cap, rfl, hc, h⟩ := h
  exact ⟨ao, cap, rfl, hc, fun i hi => by obtain ⟨g, o, h1, h2, h5, h3, h4⟩ := h i hi; exact ⟨g, o, h1, Nat.lt_of_lt_of_le h2 hs.size, h5, (hs.cell h2 h5).trans h3, (hs.cell h2 h5).trans h4⟩⟩

mutual
/-- Four cells read as a node, all that it leads to in blocks of P. -/
def NdC (w : World) (P : Nat → Prop) (g o : Nat) : Nd → Prop
  | .mk n a x k => ∃ va ak ck, w.cell? ⟨g, o, none⟩ = some (.string ⟨n.toArray⟩) ∧ w.cell? ⟨g, o + 1, none⟩ = some va ∧ w.cell? ⟨g, o + 2, none⟩ = some (.string ⟨x.toArray⟩) ∧
      w.cell? ⟨g, o + 3, none⟩ = some (.slice ak k.length ck) ∧ AtP w P va a ∧ k.length ≤ ck ∧ (k ≠ [] → ∃ g' o', ak = some ⟨g', o', none⟩ ∧ g' < w.heap.size ∧ P g' ∧ NdL w P g' o' k)
def NdL (w : World) (P : Nat → Prop) (g o : Nat) : List Nd → Prop
  | [] => True
  | d :: l => NdC w P g o d ∧ NdL w P g (o + 4) l
end
/-- A slice reads as these nodes. -/
def NdS (w : World) (P : Nat → Prop) (v : Value) (l : List Nd) : Prop :=
  ∃ ao cap, v = .slice ao l.length cap ∧ l.length ≤ cap ∧ (l ≠ [] → ∃ g o, ao = some ⟨g, o, none⟩ ∧ g < w.heap.size ∧ P g ∧ NdL w P g o l)
theorem NdC_mk {w : World} {P : Nat → Prop} {g o : Nat} {d : Nd} : NdC w P g o d ↔ ∃ va vk, w.cell? ⟨g, o, none⟩ = some (.string ⟨d.n.toArray⟩) ∧ w.cell? ⟨g, o + 1, none⟩ = some va ∧ w.cell? ⟨g, o + 2, none⟩ = some (.string ⟨d.x.toArray⟩) ∧
      w.cell? ⟨g, o + 3, none⟩ = some vk ∧ AtP w P va d.a ∧ NdS w P vk d.k := by
  cases d with
  | mk n a x k =>
    simp only [NdC, NdS, Nd.n, Nd.a, Nd.x, Nd.k]
    constructor
    · rintro ⟨va, ak, ck, h1, h2, h3, h4, h5, h6, h7⟩
      exact ⟨va, _, h1, h2, h3, h4, h5, ak, ck, rfl, h6, h7⟩
    · rintro ⟨va, vk, h1, h2, h3, h4, h5, ak, ck, rfl, h6, h7⟩
      exact ⟨va, ak, ck, h1, h2, h3, h4, h5, h6, h7⟩
theorem NdL_iff {w : World} {P : Nat → Prop} {g : Nat} (l : List Nd) : ∀ o : Nat, NdL w P g o l ↔ ∀ i (h : i < l.length), NdC w P g (o + i * 4) l[i] := by
  induction l with
  | nil => intro o; simp [NdL]
  | cons d l ih =>
    intro o
    simp only [NdL, ih]
    constructor
    · rintro ⟨h1, h2⟩ i hi
      cases i with
      | zero => simpa using h1
      | succ i =>
        have := h2 i (by simpa using hi)
        simp only [List.getElem_cons_succ]
        rw [show o + (i + 1) * 4 = o + 4 + i * 4 by omega]
        exact this
    · intro h
      refine ⟨by have := h 0 (by simp); rw [Nat.zero_mul, Nat.add_zero] at this; exact this, fun i hi => ?_⟩
      have := h (i + 1) (by simpa using hi)
      simp only [List.getElem_cons_succ] at this
      rw [show o + 4 + i * 4 = o + (i + 1) * 4 by omega]
      exact this
theorem NdS.nil (w : World) (P : Nat → Prop) : NdS w P (.slice none 0 0) [] := ⟨none, 0, rfl, Nat.le_refl _, fun h => absurd rfl h⟩
theorem NdL.mono {w w' : World} {P Q : Nat → Prop} (hs : Still P w w') (hPQ : ∀ k, P k → Q k) (l : List Nd) : ∀ g o, g < w.heap.size → P g → NdL w P g o l → NdL w' Q g o l := by
  induction l using Nd.ind with
  | h0 => intro g o _ _ _; trivial
  | h1 n a x k l ik il =>
    intro g o hg hp h
    simp only [NdL, NdC] at h ⊢
    obtain ⟨⟨va, ak, ck, h1, h2, h3, h4, h5, h6, h7⟩, h8⟩ := h
    refine ⟨⟨va, ak, ck, (hs.cell hg hp).trans h1, (hs.cell hg hp).trans h2, (hs.cell hg hp).trans h3, (hs.cell hg hp).trans h4, (h5.still hs).mono hPQ, h6, fun hk => ?_⟩, il g _ hg hp h8⟩
    obtain ⟨g', o', e, g1, g2, g3⟩ := h7 hk
    exact ⟨g', o', e, Nat.lt_of_lt_of_le g1 hs.size, hPQ _ g2, ik g' o' g1 g2 g3⟩
theorem NdS.mono {w : World} {P Q : Nat → Prop} {v : Value} {l : List Nd} (h : NdS w P v l) (hPQ : ∀ k, P k → Q k) : NdS w Q v l := by
  obtain ⟨ao, cap, rfl, hc, h⟩ := h
  refine ⟨ao, cap, rfl, hc, fun hl => ?_⟩
  obtain ⟨g, o, e, g1, g2, g3⟩ := h hl
  exact ⟨g, o, e, g1, hPQ _ g2, NdL.mono (Still.refl _ _) hPQ l g o g1 g2 g3⟩
theorem NdS.still {w w' : World} {P : Nat → Prop} {v : Value} {l : List Nd} (h : NdS w P v l) (hs : Still P w w') : NdS w' P v l := by
  obtain ⟨ao, cap, rfl, hc, h⟩ := h
  refine ⟨ao, cap, rfl, hc, fun hl => ?_⟩
  obtain ⟨g, o, e, g1, g2, g3⟩ := h hl
  exact ⟨g, o, e, Nat.lt_of_lt_of_le g1 hs.size, g2, NdL.mono hs (fun _ h => h) l g o g1 g2 g3⟩
theorem NdS.of_bl {w w' : World} {P : Nat → Prop} {v : Value} {l : List Nd} (h : NdS w P v l) (hb : Bl w w') : NdS w' P v l := h.still (Still.of_bl hb)
theorem NdS.get {w : World} {P : Nat → Prop} {v : Value} {l : List Nd} (h : NdS w P v l) : ∃ ao cap, v = .slice ao l.length cap ∧ l.length ≤ cap ∧
    ∀ i (hi : i < l.length), ∃ g o va vk, ao = some ⟨g, o, none⟩ ∧ g < w.heap.size ∧ P g ∧ w.cell? ⟨g, o + i * 4, none⟩ = some (.string ⟨l[i].n.toArray⟩) ∧ w.cell? ⟨g, o + i * 4 + 1, none⟩ = some va ∧
      w.cell? ⟨g, o + i * 4 + 2, none⟩ = some (.string ⟨l[i].x.toArray⟩) ∧ w.cell? ⟨g, o + i * 4 + 3, none⟩ = some vk ∧ AtP w P va l[i].a ∧ NdS w P vk l[i].k := by
  obtain ⟨ao, cap, rfl, hc, h⟩ := h
  refine ⟨ao, cap, rfl, hc, fun i hi => ?_⟩
  obtain ⟨g, o, e, g1, g2, g3⟩ := h (by rintro rfl; simp at hi)
  obtain ⟨va, vk, q⟩ := NdC_mk.1 ((NdL_iff l o).1 g3 i hi)
  exact ⟨g, o, va, vk, e, g1, g2, q⟩

/-- The call's own nodes: each with the values of its attributes and of its kids. -/
abbrev Nent := Nd × Value × Value
def ndV (l : List Nent) : List Value := l.flatMap fun p => [.string ⟨p.1.n.toArray⟩, p.2.1, .string ⟨p.1.x.toArray⟩, p.2.2]
theorem ndV_snoc (l : List Nent) (p : Nent) : ndV (l ++ [p]) = ndV l ++ [.string ⟨p.1.n.toArray⟩, p.2.1, .string ⟨p.1.x.toArray⟩, p.2.2] := by simp [ndV]
theorem ndV_len (l : List Nent) : (ndV l).length = l.length * 4 := by
  induction l with
  | nil => rfl
  | cons a l ih => simp only [ndV, List.flatMap_cons, List.length_append, List.length_cons, List.length_nil] at *; omega
theorem ndV_get : ∀ (l : List Nent) (i : Nat) (h : i < l.length), (ndV l)[i * 4]? = some (.string ⟨l[i].1.n.toArray⟩) ∧ (ndV l)[i * 4 + 1]? = some l[i].2.1 ∧ (ndV l)[i * 4 + 2]? = some (.string ⟨l[i].1.x.toArray⟩) ∧ (ndV l)[i * 4 + 3]? = some l[i].2.2 := by
  intro l
  induction l with
  | nil => intro i h; simp at h
  | cons a l ih =>
    intro i h
    cases i with
    | zero => simp [ndV]
    | succ i =>
      have := ih i (by simpa using h)
      have e : (i + 1) * 4 = i * 4 + 1 + 1 + 1 + 1 := by omega
      rw [e]
      simp only [ndV, List.flatMap_cons, List.cons_append, List.nil_append, List.getElem?_cons_succ, List.getElem_cons_succ] at *
      exact this
structure NdO (w : World) (base : Nat) (P : Nat → Prop) (v : Value) (l : List Nd) (ents : List Nent) : Prop where
  eq : ents.map (·.1) = l
  row : w.ownsRow base 25 4 v ents.length (ndV ents)
  low : ∀ k, v.ownBlock = some k → ¬ P k
  all : ∀ p ∈ ents, AtP w P p.2.1 p.1.a ∧ NdS w P p.2.2 p.1.k
theorem NdO.nil (w : World) (base : Nat) (P : Nat → Prop) : NdO w base P (.slice none 0 0) [] [] := ⟨rfl, World.ownsRow_nil _ _ _ _, fun k h => by simp [Value.ownBlock] at h, fun p h => by cases h⟩
theorem NdO.len {w : World} {base : Nat} {P : Nat → Prop} {v : Value} {l : List Nd} {ents : List Nent} (h : NdO w base P v l ents) : ents.length = l.length := by rw [← h.eq]; simp
theorem NdO.still {w w' : World} {base : Nat} {P : Nat → Prop} {v : Value} {l : List Nd} {ents : List Nent} (h : NdO w base P v l ents) (hs : Still (fun k => P k ∨ v.ownBlock = some k) w w') : NdO w' base P v l ents := by
  have hP : Still P w w' := hs.mono fun k hk => .inl hk
  refine ⟨h.eq, ⟨h.row.1, ?_⟩, h.low, fun p hp => ⟨(h.all p hp).1.still hP, (h.all p hp).2.still hP⟩⟩
  rcases h.row.2 with hn | ⟨g, cap, cur, rfl, hg, hgg, rest⟩
  · exact .inl hn
  · refine .inr ⟨g, cap, cur, rfl, hg, ?_, rest⟩
    rw [hs.block g (Array.getElem?_eq_some_iff.1 hgg).1 (.inr rfl)]
    exact hgg
theorem NdO.of_bl {w w' : World} {base : Nat} {P : Nat → Prop} {v : Value} {l : List Nd} {ents : List Nent} (h : NdO w base P v l ents) (hb : Bl w w') : NdO w' base P v l ents := h.still (Still.of_bl hb)
theorem NdO.mono {w : World} {base : Nat} {P Q : Nat → Prop} {v : Value} {l : List Nd} {ents : List Nent} (h : NdO w base P v l ents) (hPQ : ∀ k, P k → Q k) (hQ : ∀ k, v.ownBlock = some k → ¬ Q k) : NdO w base Q v l ents :=
  ⟨h.eq, h.row, hQ, fun p hp => ⟨(h.all p hp).1.mono hPQ, (h.all p hp).2.mono hPQ⟩⟩
theorem NdO.lt {w : World} {base : Nat} {P : Nat → Prop} {v : Value} {l : List Nd} {ents : List Nent} (h : NdO w base P v l ents) : ∀ k, v.ownBlock = some k → base ≤ k ∧ k < w.heap.size := World.ownsRow.lt h.row
/-- Own nodes that are written no more. -/
theorem NdO.nds {w : World} {base : Nat} {P : Nat → Prop} {v : Value} {l : List Nd} {ents : List Nent} (h : NdO w base P v l ents) : NdS w (fun k => P k ∨ v.ownBlock = some k) v l := by
  obtain ⟨rfl, h2, h3, h4⟩ := h
  have h' := h2
  rcases h2.2 with ⟨rfl, h0⟩ | ⟨g, cap, cur, rfl, -, hg, hnc, -⟩
  · have : ents = [] := List.eq_nil_of_length_eq_zero h0
    subst this
    exact NdS.nil _ _
  · refine ⟨some ⟨g, 0, none⟩, cap, by simp, by simpa using hnc, fun _ => ⟨g, 0, rfl, (Array.getElem?_eq_some_iff.1 hg).1, .inr rfl, (NdL_iff _ _).2 fun i hi => ?_⟩⟩
    have hi' : i < ents.length := by simpa using hi
    obtain ⟨t1, t2, t3, t4⟩ := ndV_get ents i hi'
    have key := fun j u (h : (ndV ents)[j]? = some u) => (World.ownsRow.cellAt h' j (by have := List.getElem?_eq_some_iff.1 h; obtain ⟨q, _⟩ := this; rw [ndV_len] at q; exact q)).trans h
    have hall := h4 ents[i] (List.getElem_mem hi')
    refine NdC_mk.2 ⟨ents[i].2.1, ents[i].2.2, ?_, ?_, ?_, ?_, ?_, ?_⟩
    · have := key _ _ t1; simpa using this
    · have := key _ _ t2; simpa using this
    · have := key _ _ t3; simpa using this
    · have := key _ _ t4; simpa using this
    · have := hall.1.mono (Q := fun k => P k ∨ Value.ownBlock (.slice (some ⟨g, 0, none⟩) ents.length cap) = some k) (fun _ h => .inl h); simpa using this
    · have := hall.2.mono (Q := fun k => P k ∨ Value.ownBlock (.slice (some ⟨g, 0, none⟩) ents.length cap) = some k) (fun _ h => .inl h); simpa using this
/-- A node more. -/
theorem NdO.snoc {w wz : World} {base : Nat} {P : Nat → Prop} {v v' : Value} {l : List Nd} {ents : List Nent} (d : Nd) (va vk : Value) (h : NdO w base P v l ents) (hP : ∀ k, P k → k < w.heap.size) (ha : AtP w P va d.a) (hk : NdS w P vk d.k)
    (hown : wz.ownsRow base 25 4 v' (ents.length + 1) (ndV ents ++ [.string ⟨d.n.toArray⟩, va, .string ⟨d.x.toArray⟩, vk])) (hg : Grew w wz v v') : NdO wz base P v' (l ++ [d]) (ents ++ [(d, va, vk)]) := by
  have hs : Still P w wz := by
    rcases hg with ⟨_, hg⟩ | ⟨hg, _⟩
    · exact Still.of_gr hg h.low
    · exact Still.of_gr hg (fun k e => by cases e)
  refine ⟨by simp [h.eq], by rw [ndV_snoc, List.length_append]; exact hown, fun k e hp => ?_, fun p hp => ?_⟩
  · rcases hg with ⟨e2, _⟩ | ⟨_, j, e2, hj⟩
    · exact h.low k (e2.symm.trans e) hp
    · have := hP k hp; rw [e2] at e; cases e; omega
  · rcases List.mem_append.1 hp with hp | hp
    · exact ⟨(h.all p hp).1.still hs, (h.all p hp).2.still hs⟩
    · rw [List.mem_singleton] at hp; subst hp; exact ⟨ha.still hs, hk.still hs⟩
theorem ndV_set (o : List Nent) (d : Nd) (va vk : Value) (y : List UInt8) : (ndV (o ++ [(d, va, vk)])).set (o.length * 4 + 2) (.string ⟨y.toArray⟩) = ndV (o ++ [(.mk d.n d.a y d.k, va, vk)]) := by
  rw [ndV_snoc, ndV_snoc, List.set_append_right _ _ (by rw [ndV_len]; omega), ndV_len, show o.length * 4 + 2 - o.length * 4 = 2 by omega]
  rfl
/-- The last one's text is written. -/
theorem NdO.settext {w : World} {base : Nat} {P : Nat → Prop} {g cap n : Nat} {l : List Nd} {d : Nd} {ents : List Nent} (h : NdO w base P (.slice (some ⟨g, 0, none⟩) n cap) (l ++ [d]) ents) (y : List UInt8) :
    ∃ ents', NdO (w.setCell ⟨g, l.length * 4 + 2, none⟩ (.string ⟨y.toArray⟩)) base P (.slice (some ⟨g, 0, none⟩) n cap) (l ++ [.mk d.n d.a y d.k]) ents' := by
  obtain ⟨h1, h2, h3, h4⟩ := h
  rcases List.eq_nil_or_concat ents with rfl | ⟨o, p, rfl⟩
  · simp at h1
  · obtain ⟨d', va, vk⟩ := p
    rw [List.concat_eq_append] at *
    rw [List.map_append, List.map_singleton] at h1
    obtain ⟨hl, e⟩ := List.append_inj' h1 rfl
    simp only [List.cons.injEq, and_true] at e
    subst e
    have hol : l.length = o.length := by rw [← hl]; simp
    rw [hol]
    have hn : n = (o ++ [(d', va, vk)]).length := by
      rcases h2.2 with ⟨e, _⟩ | ⟨g, cap, cur, e, _⟩ <;> simp at e ⊢
      omega
    subst hn
    have hst := World.ownsRow.stored h2 (o.length * 4 + 2) (.string ⟨y.toArray⟩)
    have hS : Still P w (w.setCell ⟨g, o.length * 4 + 2, none⟩ (.string ⟨y.toArray⟩)) := Still.set _ _ _ _ (h3 g rfl)
    refine ⟨o ++ [(.mk d'.n d'.a y d'.k, va, vk)], by simp [hl], ?_, h3, fun p hp => ?_⟩
    · rw [← ndV_set]
      simpa using hst.1
    · rcases List.mem_append.1 hp with hp | hp
      · have := h4 p (List.mem_append_left _ hp); exact ⟨this.1.still hS, this.2.still hS⟩
      · rw [List.mem_singleton] at hp; subst hp
        have := h4 (d', va, vk) (by simp); exact ⟨this.1.still hS, this.2.still hS⟩
end Go.Proofs.YtkacjnifhmgeiaaGreatDoor

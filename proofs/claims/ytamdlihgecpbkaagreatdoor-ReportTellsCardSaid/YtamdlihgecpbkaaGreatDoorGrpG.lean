/- Tokens: the call's own tokens in memory; flush. · Tokens: tag; step. · Tokens: a tag that closes. -/
import Derived.Test.YtamdlihgecpbkaaGreatDoorTokI
import Derived.Deep.RegionLaw
set_option maxRecDepth 100000
set_option maxHeartbeats 4000000
namespace Go.Proofs.YtamdlihgecpbkaaGreatDoor
open Go.RowKit
theorem step_append_own {P : Program} {ops : Array Oper} {o : Oper} {a : Act} {w : World} {K : Act → World → Prop} {Q : Exit → Act → World → Prop} {E : Prop}
 (hgd : o.guard = none) (s x : Operand) (t : TypeId) (hop : o.op = Op.call { callee := Callee.builtin Builtin.append, args := #[s, x], argTypes := #[t, t] })
 (base : Nat) (e : TypeId) (i : TypeInfo) (z : Value) (size bytes : Nat) (ht : P.underlying t = some (.slice e)) (hi : P.info? e = some i) (hz : i.zero = some z)
 (hsize : i.size = size) (hby : i.bytes = bytes) (hzs : z.cells.size = size) (hsz : 0 < size)
 (v : Value) (n : Nat) (xs : List Value) (hs : a.eval s = v) (hown : w.ownsRow base e size v n xs)
 (ad : Addr) (m c : Nat) (news : List Value) (hx : a.eval x = .slice (some ad) m c) (hl : news.length = m * size) (hnews : ∀ j u, news[j]? = some u → w.cell? (ad.add j) = some u) (h1 : ∀ u ∈ news, u.oneCell' = true)
 (h63 : n + m ≤ maxLen) (hbytes : (n + m) * bytes ≤ 140737488355328) (hbase : base ≤ w.heap.size)
 (hK : ∀ v' w', w'.ownsRow base e size v' (n + m) (xs ++ news) → w.grownBy w' v.ownBlock → K (a.put o.dst v') w') :
 if Region.wanted o (yielded ops a.tmps) = true then Oper.wp P o a w K Q else E := by
 have hw : Region.wanted o (yielded ops a.tmps) = true := by simp [Region.wanted, hgd]
 rw [if_pos hw]; obtain ⟨v', w', hrun, h2, h3, -⟩ := run_append_own (P := P) w base t o.type e i z size bytes ht hi hz hsize hby hzs hsz v n xs hown ad m c news hl hnews h1 h63 hbytes hbase; unfold Oper.wp; simp [execOp, hop, resolve, invoke, builtin, hs, hx, hrun, Result.andThen]; exact hK v' w' h2 h3
def tkC (l : List (Tok × Value)) : List Value := l.flatMap fun p => [.int .i64 p.1.1, .string ⟨p.1.2.1.toArray⟩, p.2, .string ⟨p.1.2.2.2.toArray⟩]
theorem tkC_snoc (l : List (Tok × Value)) (p : Tok × Value) : tkC (l ++ [p]) = tkC l ++ [.int .i64 p.1.1, .string ⟨p.1.2.1.toArray⟩, p.2, .string ⟨p.1.2.2.2.toArray⟩] := by simp [tkC]
theorem tkC_get : ∀ (l : List (Tok × Value)) (i : Nat) (h : i < l.length), (tkC l)[i * 4]? = some (.int .i64 l[i].1.1) ∧ (tkC l)[i * 4 + 1]? = some (.string ⟨l[i].1.2.1.toArray⟩) ∧ (tkC l)[i * 4 + 2]? = some l[i].2 ∧ (tkC l)[i * 4 + 3]? = some (.string ⟨l[i].1.2.2.2.toArray⟩) := by
 intro l; induction l with
 | nil => intro i h; simp at h
 | cons a l ih =>
   intro i h; cases i with
   | zero => simp [tkC]
   | succ i =>
     have := ih i (by simpa using h); have e : (i + 1) * 4 = i * 4 + 1 + 1 + 1 + 1 := by omega
     rw [e]; simp only [tkC, List.flatMap_cons, List.cons_append, List.nil_append, List.getElem?_cons_succ, List.getElem_cons_succ] at *; exact this
def TkO (w : World) (base : Nat) (v : Value) (l : List Tok) : Prop :=
 ∃ ents : List (Tok × Value), ents.map (·.1) = l ∧ w.ownsRow base 108 4 v ents.length (tkC ents) ∧ ∀ p ∈ ents, AtO w base p.2 p.1.2.2.1
theorem TkO.nil (w : World) (base : Nat) : TkO w base (.slice none 0 0) [] := ⟨[], rfl, World.ownsRow_nil _ _ _ _, fun p h => by cases h⟩
theorem gb_own {w : World} {base : Nat} {e : TypeId} {size n : Nat} {v : Value} {xs : List Value} {b : Nat} (h : w.ownsRow base e size v n xs) (hb : b < base) : v.ownBlock = none ∨ v.ownBlock ≠ some b := by
 cases hv : v.ownBlock with
 | none => exact Or.inl rfl
 | some k => right; have := (World.ownsRow.lt h k hv).1; simp; omega
theorem TkO.of_gb {w w' : World} {base : Nat} {v : Value} {l : List Tok} {b : Nat} (h : TkO w base v l) (hg : w.grownBy w' (some b)) (hb : b < base) : TkO w' base v l := by
 obtain ⟨ents, h1, h2, h3⟩ := h; exact ⟨ents, h1, World.ownsRow.kept h2 hg (gb_own h2 hb), fun p hp => (h3 p hp).of_gb hg hb⟩
theorem TkO.of_bl {w w' : World} {base : Nat} {v : Value} {l : List Tok} (h : TkO w base v l) (hb : Bl w w') : TkO w' base v l := by
 obtain ⟨ents, h1, h2, h3⟩ := h; exact ⟨ents, h1, World.ownsRow.kept h2 (gb_bl (b := none) hb) (by cases hv : v.ownBlock <;> simp), fun p hp => (h3 p hp).of_bl hb⟩
theorem TkO.lt {w : World} {base : Nat} {v : Value} {l : List Tok} (h : TkO w base v l) : ∀ k, v.ownBlock = some k → base ≤ k ∧ k < w.heap.size := by
 obtain ⟨ents, h1, h2, h3⟩ := h; exact World.ownsRow.lt h2
theorem two_rows {w : World} {b1 b2 : Nat} {e1 e2 : TypeId} {s1 s2 n1 n2 : Nat} {v1 v2 : Value} {x1 x2 : List Value} (h1 : w.ownsRow b1 e1 s1 v1 n1 x1) (h2 : w.ownsRow b2 e2 s2 v2 n2 x2) (he : e1 ≠ e2) : v1.ownBlock = none ∨ v1.ownBlock ≠ v2.ownBlock := by
 rcases h1.2 with ⟨rfl, _⟩ | ⟨g1, c1, u1, rfl, _, hg1, _⟩
 · exact Or.inl rfl
 · rcases h2.2 with ⟨rfl, _⟩ | ⟨g2, c2, u2, rfl, _, hg2, _⟩
   · right; simp [Value.ownBlock]
   · right; simp only [Value.ownBlock, ne_eq, Option.some.injEq]; rintro rfl; rw [hg1] at hg2; exact he (by simpa using (Option.some.inj hg2 |> Obj.cells.inj).2.1)
theorem tk_meet {w0 wz : World} {base : Nat} {v v' va : Value} {l : List Tok} {t : Tok} {ents : List (Tok × Value)} (h1 : ents.map (·.1) = l) (h2 : w0.ownsRow base 108 4 v ents.length (tkC ents)) (h3 : ∀ p ∈ ents, AtO w0 base p.2 p.1.2.2.1)
 (ha : AtO w0 base va t.2.2.1) (hown' : wz.ownsRow base 108 4 v' (ents.length + 1) (tkC ents ++ [.int .i64 t.1, .string ⟨t.2.1.toArray⟩, va, .string ⟨t.2.2.2.toArray⟩])) (hgrow : w0.grownBy wz v.ownBlock) : TkO wz base v' (l ++ [t]) := by
 refine ⟨ents ++ [(t, va)], by simp [h1], by rw [tkC_snoc, List.length_append]; exact hown', fun p hp => ?_⟩; have key : ∀ (pv : Value) (pa : List Atr), AtO w0 base pv pa → AtO wz base pv pa := fun pv pa h => World.ownsRow.kept h hgrow (two_rows h h2 (by decide))
 rcases List.mem_append.1 hp with hp | hp
 · exact key _ _ (h3 p hp)
 · rw [List.mem_singleton] at hp; subst hp; exact key _ _ ha
theorem AtO.nil (w : World) (base : Nat) : AtO w base (.slice none 0 0) [] := World.ownsRow_nil _ _ _ _
theorem Tryz.infoTok : (Tryz.prog.info? 108).map (fun i => (i.zero, i.size, i.bytes)) = some (some (.agg #[.int .i64 0, .string ⟨#[]⟩, .slice none 0 0, .string ⟨#[]⟩]), 4, 64) := by kernel_rfl
theorem below_gb {w W : World} {b k : Nat} (h : w.grownBy W (some b)) (hk : k ≤ b) (hs : k ≤ w.heap.size) : Below k w W :=
 ⟨h.os, h.tape, h.output, h.size, fun i hi => h.block i (by omega) (by simp; omega)⟩
theorem below_gr {w W : World} {g : Option Nat} {k : Nat} (h : w.grownBy W g) (hk : ∀ j, g = some j → k ≤ j) (hs : k ≤ w.heap.size) : Below k w W :=
 ⟨h.os, h.tape, h.output, h.size, fun i hi => h.block i (by omega) (fun e => by have := hk i e.symm; omega)⟩
theorem own_shape {w : World} {base : Nat} {e : TypeId} {size n : Nat} {v : Value} {xs : List Value} (h : w.ownsRow base e size v (n + 1) xs) : ∃ g c, v = .slice (some ⟨g, 0, none⟩) (n + 1) c := by
 rcases h.2 with ⟨_, h0⟩ | ⟨g, cap, cur, rfl, _⟩
 · omega
 · exact ⟨g, cap, rfl⟩
structure Fr2 (b : Nat) (g : Option Nat) (w w' : World) : Prop where
 os : w'.os = w.os
 tape : w'.tape = w.tape
 output : w'.output = w.output
 size : w.heap.size ≤ w'.heap.size
 block : ∀ k, k < w.heap.size → k ≠ b → some k ≠ g → w'.heap[k]? = w.heap[k]?
theorem Fr2.of_gb {b : Nat} {g : Option Nat} {w w' : World} (h : w.grownBy w' (some b)) : Fr2 b g w w' := ⟨h.os, h.tape, h.output, h.size, fun k hk h1 _ => h.block k hk (by simpa using h1)⟩
theorem Fr2.of_gr {b : Nat} {g : Option Nat} {w w' : World} (h : w.grownBy w' g) : Fr2 b g w w' := ⟨h.os, h.tape, h.output, h.size, fun k hk _ h2 => h.block k hk h2⟩
theorem Fr2.trans {b : Nat} {g : Option Nat} {x y z : World} (h : Fr2 b g x y) (k : Fr2 b g y z) : Fr2 b g x z :=
 ⟨k.os.trans h.os, k.tape.trans h.tape, k.output.trans h.output, Nat.le_trans h.size k.size, fun i hi h1 h2 => (k.block i (Nat.lt_of_lt_of_le hi h.size) h1 h2).trans (h.block i hi h1 h2)⟩
theorem Fr2.below {b : Nat} {g : Option Nat} {w w' : World} (h : Fr2 b g w w') (hg : ∀ j, g = some j → b < j) (hs : b ≤ w.heap.size) : Below b w w' :=
 ⟨h.os, h.tape, h.output, h.size, fun k hk => h.block k (by omega) (by omega) (fun e => by have := hg k e.symm; omega)⟩
theorem own_fr2 {w w' : World} {base : Nat} {e : TypeId} {size n : Nat} {v : Value} {xs : List Value} {b : Nat} {g : Option Nat} (h : w.ownsRow base e size v n xs) (hF : Fr2 b g w w') (hb : b < base) (hg : v.ownBlock = none ∨ v.ownBlock ≠ g) : w'.ownsRow base e size v n xs := by
 refine ⟨h.1, ?_⟩; rcases h.2 with hn | ⟨k, cap, cur, rfl, hk, hkk, rest⟩
 · exact .inl hn
 · refine .inr ⟨k, cap, cur, rfl, hk, ?_, rest⟩; rw [hF.block k (Array.getElem?_eq_some_iff.1 hkk).1 (by omega) (by simpa [Value.ownBlock] using hg)]; exact hkk
def RT (w : World) (b : Nat) (s t x : List UInt8) (l : List Tok) : Prop := ∃ v, Rr w b s t x v ∧ TkO w (b + 1) v l
theorem flush_c (b : Nat) (s t x : List UInt8) (l : List Tok) (v : Value) (w : World) (hR : Rr w b s t x v) (hT : TkO w (b + 1) v l) (hx : x.length ≤ 1073741824) (hl : l.length ≤ 1073741824) (hE : ES w) :
 Calls Tryz.prog 82 #[.pointer (some ⟨b, 0, none⟩)] w fun e w' => e = .returned (.tuple #[]) ∧ RT w' b s t [] (flsh x l) ∧ Fr2 b v.ownBlock w w' := by
 obtain ⟨i0, hi, hz0, hz1, hz2⟩ := info_parts Tryz.infoTok; have hbw := hR.rk.lt; obtain ⟨a0, a1, a2, a3, f0, f1, f2, f3⟩ := hR.rk.cells; have TC := Lib.hid (fun W h => taken_c x (by omega) W h); by_cases h0 : (Tk x).1 = []
 · have HF := Lib.hid (show flsh x l = l by unfold flsh; rw [if_pos h0]); rw [h0] at TC; clear h0; go_enter Tryz.func82, Tryz.ntmps82; go_wp2_with (go_at_call 72; (with_reducible refine (TC.out _ hE).mono ?_); rintro e w1 ⟨rfl, hb1⟩; have hR1 := hR.of_bl hb1; clear a0 a1 a2 a3 f0 f1 f2 f3; obtain ⟨a0, a1, a2, a3, f0, f1, f2, f3⟩ := hR1.rk.cells); go_end0; refine ⟨rfl, ⟨v, ⟨hR1.rk.set2 [], hR1.sf⟩, ?_⟩, ?_⟩
   · rw [HF.out]; exact (hT.of_bl hb1).of_gb (gb_set (gb_refl _ _) _ _) (Nat.lt_succ_self _)
   · exact Fr2.of_gb (gb_set (gb_bl hb1) _ _)
 · have HF := Lib.hid (show flsh x l = l ++ [(1, [], [], (Tk x).1)] by unfold flsh; rw [if_neg h0]); obtain ⟨y, hy⟩ : ∃ y, y = (Tk x).1 := ⟨_, rfl⟩; rw [← hy] at TC HF h0; have hne : y.isEmpty = false := by cases y <;> simp_all
   clear hy h0; go_enter Tryz.func82, Tryz.ntmps82; go_wp2_with (first | (go_at_call 72; (with_reducible refine (TC.out _ hE).mono ?_); rintro e w1 ⟨rfl, hb1⟩; have hR1 := hR.of_bl hb1; have hT1 := hT.of_bl hb1; clear a0 a1 a2 a3 f0 f1 f2 f3; obtain ⟨a0, a1, a2, a3, f0, f1, f2, f3⟩ := hR1.rk.cells; obtain ⟨ents, e1, e2, e3⟩ := hT1; have hel : ents.length ≤ l.length := (by rw [← e1]; simp); have hs1 := Below.size hb1) | (at_builtin; refine wpList_append_own _ rfl _ _ 72 rfl (b + 1) 108 i0 (.agg #[.int .i64 0, .string ⟨#[]⟩, .slice none 0 0, .string ⟨#[]⟩]) 4 64 Tryz.underlying72 hi hz0 hz1 hz2 rfl (by decide) _ _ _ rfl (World.ownsRow.alloc e2 _) ⟨w1.heap.size, 0, none⟩ 1 1 [.int .i64 1, .string ⟨#[]⟩, .slice none 0 0, .string ⟨y.toArray⟩] rfl rfl (new_cells w1 #[.int .i64 1, .string ⟨#[]⟩, .slice none 0 0, .string ⟨y.toArray⟩] _) (by simp [Value.oneCell']) (by unfold maxLen; omega) (by omega) (by simp; omega) ?_)); intro v' wz hown' hgrow _; obtain ⟨gv, cv, rfl⟩ := own_shape hown'; have m1 := tk_meet (t := (1, [], [], y)) (va := .slice none 0 0) e1 (World.ownsRow.alloc e2 _) (fun p hp => (e3 p hp).of_bl ((Bl.refl _).alloc _)) (AtO.nil _ _) hown' hgrow; have hvb := World.ownsRow.lt e2; have hRz : Rr wz b s t x v := ⟨(hR1.of_bl ((Bl.refl _).alloc _)).rk.of_gb hgrow (fun e => by have := (hvb b e.symm).1; omega), hR1.sf⟩; have hBz : Fr2 b v.ownBlock w wz := (Fr2.of_gr (gb_bl (hb1.alloc _))).trans (Fr2.of_gr hgrow); clear hown' hgrow a0 a1 a2 a3 f0 f1 f2 f3; obtain ⟨a0, a1, a2, a3, f0, f1, f2, f3⟩ := hRz.rk.cells; go_wp2; go_end0; refine ⟨rfl, ⟨_, ⟨(hRz.rk.set3 _).set2 [], hRz.sf⟩, ?_⟩, ?_⟩
   · rw [HF.out]; exact (m1.of_gb (gb_set (gb_refl _ _) _ _) (Nat.lt_succ_self _)).of_gb (gb_set (gb_refl _ _) _ _) (Nat.lt_succ_self _)
   · exact hBz.trans (Fr2.of_gb (gb_set (gb_set (gb_refl _ _) _ _) _ _))
structure FrT (b : Nat) (w w' : World) : Prop where
 size : w.heap.size ≤ w'.heap.size
 block : ∀ k, k < w.heap.size → k ≠ b → (∀ cur, w.heap[k]? ≠ some (.cells cur 108 (0, 0))) → w'.heap[k]? = w.heap[k]?
theorem FrT.of_gb {b : Nat} {w w' : World} (h : w.grownBy w' (some b)) : FrT b w w' := ⟨h.size, fun k hk h1 _ => h.block k hk (by simpa using h1)⟩
theorem FrT.trans {b : Nat} {x y z : World} (h : FrT b x y) (k : FrT b y z) : FrT b x z :=
 ⟨Nat.le_trans h.size k.size, fun i hi h1 h2 => by
  have e := h.block i hi h1 h2; exact (k.block i (Nat.lt_of_lt_of_le hi h.size) h1 (fun cur => by rw [e]; exact h2 cur)).trans e⟩
theorem FrT.of_row {b base : Nat} {w w' : World} {v : Value} {n : Nat} {xs : List Value} (h : w.ownsRow base 108 4 v n xs) (hs : w.heap.size ≤ w'.heap.size) (hb : ∀ k, k < w.heap.size → k ≠ b → some k ≠ v.ownBlock → w'.heap[k]? = w.heap[k]?) : FrT b w w' :=
 ⟨hs, fun k hk h1 h2 => hb k hk h1 (fun e => by
  rcases h.2 with ⟨rfl, _⟩ | ⟨g, cap, cur, rfl, _, hg, _⟩
  · simp [Value.ownBlock] at e
  · simp only [Value.ownBlock, Option.some.injEq] at e; subst e; exact h2 cur hg)⟩
theorem FrT.of_fr2 {b base : Nat} {w w' : World} {v : Value} {l : List Tok} (h : TkO w base v l) (hF : Fr2 b v.ownBlock w w') : FrT b w w' := by
 obtain ⟨ents, -, h2, -⟩ := h; exact FrT.of_row h2 hF.size hF.block
def StEnd (w0 : World) (b : Nat) (s x : List UInt8) (l : List Tok) (R : Option (List UInt8 × List UInt8 × List Tok)) (e : Ending) (w' : World) : Prop :=
 Below b w0 w' ∧ FrT b w0 w' ∧ match R with
  | none => e = .panicked OPN ∧ ∃ t', RT w' b s t' x l
  | some (u, x', l') => e = .returned (.tuple #[]) ∧ RT w' b s u x' l'
def Tkb (w : World) (q : Nat) (k : Int) (n : List UInt8) (va : Value) : Prop := w.heap[q]? = some (.cells #[.int .i64 k, .string ⟨n.toArray⟩, va, .string ⟨#[]⟩] 108 (0, 0))
theorem Tkb.lt {w : World} {q : Nat} {k : Int} {n : List UInt8} {va : Value} (h : Tkb w q k n va) : q < w.heap.size := (Array.getElem?_eq_some_iff.1 h).1
theorem Tkb.cells {w : World} {q : Nat} {k : Int} {n : List UInt8} {va : Value} (h : Tkb w q k n va) :
 w.cell? ⟨q, 0, none⟩ = some (.int .i64 k) ∧ w.cell? ⟨q, 1, none⟩ = some (.string ⟨n.toArray⟩) ∧ w.cell? ⟨q, 2, none⟩ = some va ∧ w.cell? ⟨q, 3, none⟩ = some (.string ⟨#[]⟩) ∧
 w.frozen? ⟨q, 0, none⟩ = false ∧ w.frozen? ⟨q, 1, none⟩ = false ∧ w.frozen? ⟨q, 2, none⟩ = false ∧ w.frozen? ⟨q, 3, none⟩ = false := by
 unfold Tkb at h; simp [World.cell?, World.frozen?, h]
theorem Tkb.of_gb {w w' : World} {q : Nat} {k : Int} {n : List UInt8} {va : Value} {g : Option Nat} (h : Tkb w q k n va) (hg : w.grownBy w' g) (hne : some q ≠ g) : Tkb w' q k n va := by
 have := h.lt; unfold Tkb at *; rw [hg.block q this hne, h]
theorem Tkb.of_bl {w w' : World} {q : Nat} {k : Int} {n : List UInt8} {va : Value} (h : Tkb w q k n va) (hb : Bl w w') : Tkb w' q k n va := h.of_gb (gb_bl (b := none) hb) (by simp)
theorem Tkb.set2 {w : World} {q : Nat} {k : Int} {n : List UInt8} {va : Value} (h : Tkb w q k n va) (vb : Value) : Tkb (w.setCell ⟨q, 2, none⟩ vb) q k n vb := by
 unfold Tkb at *; simp [World.setCell, h, Array.getElem?_modify]
theorem Tkb.of_fr2 {w w' : World} {q : Nat} {k : Int} {n : List UInt8} {va : Value} {b : Nat} {g : Option Nat} (h : Tkb w q k n va) (hF : Fr2 b g w w') (hb : q ≠ b) (hg : some q ≠ g) : Tkb w' q k n va := by
 have := h.lt; unfold Tkb at *; rw [hF.block q this hb hg, h]
theorem AtO.shape {w : World} {B : Nat} {v : Value} {l : List Atr} (h : AtO w B v l) : ∃ ao c, v = .slice ao l.length c := by
 rcases h.2 with ⟨rfl, h0⟩ | ⟨g, cap, cur, rfl, _⟩
 · exact ⟨none, 0, by rw [h0]⟩
 · exact ⟨_, cap, rfl⟩
theorem AtO.base_le {w : World} {B B' : Nat} {v : Value} {l : List Atr} (h : AtO w B v l) (hB : B' ≤ B) : AtO w B' v l := by
 refine ⟨h.1, ?_⟩; rcases h.2 with hn | ⟨k, cap, cur, rfl, hk, rest⟩
 · exact .inl hn
 · exact .inr ⟨k, cap, cur, rfl, Nat.le_trans hB hk, rest⟩
theorem own_bl {w w' : World} {base : Nat} {e : TypeId} {size n : Nat} {v : Value} {xs : List Value} (h : w.ownsRow base e size v n xs) (hb : Bl w w') : w'.ownsRow base e size v n xs :=
 World.ownsRow.kept h (gb_bl (b := none) hb) (by cases hv : v.ownBlock <;> simp)
theorem tok_meet {w5 w6 wz : World} {b : Nat} {s u x : List UInt8} {v5 v' va : Value} {l : List Tok} {t : Tok} {ents : List (Tok × Value)} (hR5 : Rr w5 b s u x v5) (e1 : ents.map (·.1) = l) (e2 : w5.ownsRow (b + 1) 108 4 v5 ents.length (tkC ents)) (e3 : ∀ p ∈ ents, AtO w5 (b + 1) p.2 p.1.2.2.1)
 (hO5 : AtO w5 (b + 1) va t.2.2.1) (hown' : wz.ownsRow (b + 1) 108 4 v' (ents.length + 1) (tkC ents ++ [.int .i64 t.1, .string ⟨t.2.1.toArray⟩, va, .string ⟨t.2.2.2.toArray⟩])) (hgrow : w6.grownBy wz v5.ownBlock) (hb : Bl w5 w6) :
 TkO wz (b + 1) v' (l ++ [t]) ∧ Rr wz b s u x v5 ∧ Below b w5 wz ∧ FrT b w5 wz := by
 have hvb := World.ownsRow.lt e2; refine ⟨tk_meet e1 (own_bl e2 hb) (fun p hp => (e3 p hp).of_bl hb) (hO5.of_bl hb) hown' hgrow, ⟨(hR5.of_bl hb).rk.of_gb hgrow (fun e => by have := (hvb b e.symm).1; omega), hR5.sf⟩, ?_, (FrT.of_gb (gb_bl hb)).trans (FrT.of_row (b := b) (own_bl e2 hb) hgrow.size (fun k hk _ h2 => hgrow.block k hk h2))⟩; have hlt := hR5.rk.lt; have hsz := Below.size hb; exact (below_gb (b := b) (gb_bl hb) (Nat.le_refl _) (by omega)).trans (below_gr hgrow (fun j hj => by have := (hvb j hj).1; omega) (by omega))
theorem tag_open (b : Nat) (s t x : List UInt8) (c : UInt8) (l : List Tok) (w : World) (hR : RT w b s (c :: t) x l) (hs : s.length ≤ 1073741824) (hx : x.length ≤ 1073741824) (hl : l.length ≤ 1073741823) (hE : ES w) (hbE : 1 < b) :
 Calls Tryz.prog 154 #[.pointer (some ⟨b, 0, none⟩), .int .i64 2, .int .i64 1] w fun e w' =>
  StEnd w b s x l ((atP (t.dropWhile tch) []).map fun y => if isNm (fold (t.takeWhile tch)) then (y.2, [], flsh x l ++ [(2, fold (t.takeWhile tch), y.1, [])]) else (y.2, x, l)) e w' := by
 obtain ⟨v, hR, hT⟩ := hR; obtain ⟨i0, hi, hz0, hz1, hz2⟩ := info_parts Tryz.infoTok; have hbw := hR.rk.lt; obtain ⟨a0, a1, a2, a3, f0, f1, f2, f3⟩ := hR.rk.cells; obtain ⟨K, hK⟩ : ∃ K, s.length - (c :: t).length = K := ⟨_, rfl⟩; rw [hK] at a1; have hlc := hR.len; simp only [List.length_cons] at hlc; have hKb : (K : Int) + 1 ≤ (s.length : Int) := by simp only [List.length_cons] at hK; omega
 have hR0 := hR.skip hK; have hT0 := hT.of_gb (gb_set (b := b) (gb_refl _ w) 1 (.int .i64 ((K : Int) + 1))) (Nat.lt_succ_self _); have hg0 := gb_set (b := b) (gb_refl _ w) 1 (.int .i64 ((K : Int) + 1)); have P1 := Lib.hid (pass_r _ tch do_t1 b s t x v _ hR0 (by omega)); have hnl : (t.takeWhile tch).length ≤ t.length := (List.takeWhile_prefix _).length_le; have FC := Lib.hid (fun W => folded_c (t.takeWhile tch) (by omega) W); have AC := Lib.hid (fun W v h1 h2 => attrs_c b s (t.dropWhile tch) x v W h1 hs h2 hbE); obtain ⟨n, hn⟩ : ∃ n, n = fold (t.takeWhile tch) := ⟨_, rfl⟩; have hn20 : n.length ≤ s.length := by rw [hn, fold_len]; omega
 have NC := Lib.hid (fun W => name_c n (by omega) W); rw [← hn] at FC ⊢; clear hK hn; cases hat : atP (t.dropWhile tch) [] with
 | none =>
   rw [hat] at AC; clear hat; go_enter Tryz.func154, Tryz.ntmps154; go_wp2_with (first | (go_at_call 151; (with_reducible refine P1.out.mono ?_); clear P1; rintro e w1 ⟨rfl, hR1, hg1⟩) | (go_at_call 57; (with_reducible refine (FC.out _).mono ?_); rintro e w2 ⟨rfl, hb2⟩; have hR2 := hR1.of_bl hb2; have hE2 := ((hE.of_gb hg0 hbE).of_gb hg1 hbE).of_bl hb2) | (go_at_call 182; (with_reducible refine (AC.out _ _ (hR2.of_bl ((Bl.refl _).alloc _)) (hE2.of_bl ((Bl.refl _).alloc _))).mono ?_); rintro e w3 ⟨hg3, rfl, t3, hR3⟩)); all_goals have hgz := gb_trans (gb_trans hg0 hg1) (gb_trans (gb_bl (hb2.alloc _)) hg3)
   all_goals exact ⟨rfl, below_gb hgz (Nat.le_refl _) (Nat.le_of_lt hbw), FrT.of_gb hgz, rfl, t3, v, hR3, hT.of_gb hgz (Nat.lt_succ_self _)⟩
 | some au =>
   obtain ⟨al, u⟩ := au; rw [hat] at AC; clear hat; cases hN : isNm n
   · rw [hN] at NC; clear hN; go_enter Tryz.func154, Tryz.ntmps154; go_wp2_with (first | (go_at_call 151; (with_reducible refine P1.out.mono ?_); clear P1; rintro e w1 ⟨rfl, hR1, hg1⟩) | (go_at_call 57; (with_reducible refine (FC.out _).mono ?_); rintro e w2 ⟨rfl, hb2⟩; have hR2 := hR1.of_bl hb2; have hE2 := ((hE.of_gb hg0 hbE).of_gb hg1 hbE).of_bl hb2) | (go_at_call 182; (with_reducible refine (AC.out _ _ (hR2.of_bl ((Bl.refl _).alloc _)) (hE2.of_bl ((Bl.refl _).alloc _))).mono ?_); rintro e w3 ⟨hg3, va, rfl, hO3, hR3⟩; obtain ⟨ao, ca, rfl⟩ := hO3.shape; have hq3 := (show Tkb (w2.alloc (.cells #[.int .i64 2, .string ⟨n.toArray⟩, .slice none 0 0, .string ⟨#[]⟩] 108)) w2.heap.size 2 n (.slice none 0 0) from heap_alloc_new _ _).of_gb hg3 (by have := hR2.rk.lt; simp; omega); have hbq : b < w2.heap.size := hR2.rk.lt; obtain ⟨y0, y1, y2, y3, y4, y5, y6, y7⟩ := hq3.cells; have hq4 := hq3.set2 (.slice ao al.length ca); obtain ⟨z0, z1, z2, z3, z4, z5, z6, z7⟩ := hq4.cells; have hg4 := gb_setnew (gb_trans (gb_trans hg0 hg1) (gb_trans (gb_bl (b := some b) (hb2.alloc _)) hg3)) (q := w2.heap.size) (Nat.le_trans (gb_trans hg0 hg1).size (Below.size hb2)) 2 (.slice ao al.length ca); have hR4 := hR3.far (q := w2.heap.size) (o := 2) (u := .slice ao al.length ca) (Nat.ne_of_lt hbq); have hT4 := hT.of_gb hg4 (Nat.lt_succ_self _); have hE4 := hE.of_gb hg4 hbE) | (go_at_call 183; (with_reducible refine (NC.out _).mono ?_); rintro e w4 ⟨rfl, rfl⟩)); go_end0; exact ⟨below_gb hg4 (Nat.le_refl _) (Nat.le_of_lt hbw), FrT.of_gb hg4, rfl, v, hR4, hT4⟩
   · rw [hN] at NC; clear hN; have hvlt := hT.lt; have KC := Lib.hid (fun W h1 h2 h3 => flush_c b s u x l v W h1 h2 hx (by omega) h3); go_enter Tryz.func154, Tryz.ntmps154; go_wp2_with (first | (go_at_call 151; (with_reducible refine P1.out.mono ?_); clear P1; rintro e w1 ⟨rfl, hR1, hg1⟩) | (go_at_call 57; (with_reducible refine (FC.out _).mono ?_); rintro e w2 ⟨rfl, hb2⟩; have hR2 := hR1.of_bl hb2; have hE2 := ((hE.of_gb hg0 hbE).of_gb hg1 hbE).of_bl hb2) | (go_at_call 182; (with_reducible refine (AC.out _ _ (hR2.of_bl ((Bl.refl _).alloc _)) (hE2.of_bl ((Bl.refl _).alloc _))).mono ?_); rintro e w3 ⟨hg3, va, rfl, hO3, hR3⟩; obtain ⟨ao, ca, rfl⟩ := hO3.shape; have hq3 := (show Tkb (w2.alloc (.cells #[.int .i64 2, .string ⟨n.toArray⟩, .slice none 0 0, .string ⟨#[]⟩] 108)) w2.heap.size 2 n (.slice none 0 0) from heap_alloc_new _ _).of_gb hg3 (by have := hR2.rk.lt; simp; omega); have hbq : b < w2.heap.size := hR2.rk.lt; obtain ⟨y0, y1, y2, y3, y4, y5, y6, y7⟩ := hq3.cells; have hq4 := hq3.set2 (.slice ao al.length ca); obtain ⟨z0, z1, z2, z3, z4, z5, z6, z7⟩ := hq4.cells; have hg4 := gb_setnew (gb_trans (gb_trans hg0 hg1) (gb_trans (gb_bl (b := some b) (hb2.alloc _)) hg3)) (q := w2.heap.size) (Nat.le_trans (gb_trans hg0 hg1).size (Below.size hb2)) 2 (.slice ao al.length ca); have hR4 := hR3.far (q := w2.heap.size) (o := 2) (u := .slice ao al.length ca) (Nat.ne_of_lt hbq); have hT4 := hT.of_gb hg4 (Nat.lt_succ_self _); have hE4 := hE.of_gb hg4 hbE) | (go_at_call 183; (with_reducible refine (NC.out _).mono ?_); rintro e w4 ⟨rfl, rfl⟩) | (go_at_call 82; (with_reducible refine (KC.out _ hR4 hT4 hE4).mono ?_); clear a0 a1 a2 a3 f0 f1 f2 f3 y0 y1 y2 y3 y4 y5 y6 y7 z0 z1 z2 z3 z4 z5 z6 z7; rintro e w5 ⟨rfl, ⟨v5, hR5, hT5⟩, hF5⟩)); have hwq : w.heap.size ≤ w2.heap.size := Nat.le_trans (gb_trans hg0 hg1).size (Below.size hb2); have hq5 := hq4.of_fr2 hF5 (Ne.symm (Nat.ne_of_lt hbq)) (fun e => by have := (hvlt _ e.symm).2; omega); have hO4 : AtO (w3.setCell ⟨w2.heap.size, 2, none⟩ (.slice ao al.length ca)) (b + 1) (.slice ao al.length ca) al :=
      AtO.base_le (World.ownsRow.kept hO3 (gb_set (gb_refl _ _) 2 (.slice ao al.length ca)) (gb_own hO3 (by simp))) (by simp; omega)
     have hO5 : AtO w5 (b + 1) (.slice ao al.length ca) al := by
      obtain ⟨en, -, e2', -⟩ := hT4; exact own_fr2 hO4 hF5 (Nat.lt_succ_self _) (two_rows hO4 e2' (by decide))
     obtain ⟨a0, a1, a2, a3, f0, f1, f2, f3⟩ := hR5.rk.cells; obtain ⟨z0, z1, z2, z3, z4, z5, z6, z7⟩ := hq5.cells; have hfl : (flsh x l).length ≤ l.length + 1 := by unfold flsh; split <;> simp
     have hl5 := hT5; obtain ⟨ents, e1, e2, e3⟩ := hl5; have hel : ents.length ≤ (flsh x l).length := by rw [← e1]; simp
     have hbw5 := hR5.rk.lt; have hq5l := hq5.lt; have hB5 := hF5.below (fun j hj => by have := (hvlt j hj).1; omega) (Nat.le_of_lt hR4.rk.lt)
     go_region_law (refine step_append_own rfl (.tmp 36) (.tmp 38) 72 rfl (b + 1) 108 i0 (.agg #[.int .i64 0, .string ⟨#[]⟩, .slice none 0 0, .string ⟨#[]⟩]) 4 64 Tryz.underlying72 hi hz0 hz1 hz2 rfl (by decide) v5 ents.length (tkC ents) (by simp [Act.eval]) (own_bl e2 Bl.z) ⟨w5.heap.size, 0, none⟩ 1 1 [.int .i64 2, .string ⟨n.toArray⟩, .slice ao al.length ca, .string ⟨#[]⟩] (by simp [Act.eval]) rfl (new_cells w5 #[.int .i64 2, .string ⟨n.toArray⟩, .slice ao al.length ca, .string ⟨#[]⟩] _) (by simp [Value.oneCell']) (by unfold maxLen; omega) (by omega) (by simp; omega) ?_; intro v' wz hown' hgrow; obtain ⟨gv, cv, rfl⟩ := own_shape hown'; obtain ⟨mz1, mz2, mz3, mz4⟩ := tok_meet (t := (2, n, al, [])) hR5 e1 e2 e3 hO5 hown' hgrow Bl.z; clear hown' hgrow a0 a1 a2 a3 f0 f1 f2 f3; obtain ⟨a0, a1, a2, a3, f0, f1, f2, f3⟩ := mz2.rk.cells)
     all_goals
      go_wp2; go_end0; exact ⟨((below_gb (b := b) hg4 (Nat.le_refl _) (Nat.le_of_lt hbw)).trans hB5).trans (mz3.setCell (Nat.le_refl _) _), (((FrT.of_gb hg4).trans (FrT.of_fr2 hT4 hF5)).trans mz4).trans (FrT.of_gb (gb_set (gb_refl _ _) _ _)), rfl, _, ⟨mz2.rk.set3 _, mz2.sf⟩, mz1.of_gb (gb_set (gb_refl _ _) _ _) (Nat.lt_succ_self _)⟩
theorem Rr.skip2 {w : World} {b K : Nat} {s t x : List UInt8} {c d : UInt8} {v : Value} (h : Rr w b s (c :: d :: t) x v) (hK : s.length - (c :: d :: t).length = K) : Rr (w.setCell ⟨b, 1, none⟩ (.int .i64 ((K : Int) + 2))) b s t x v := by
 have hl := h.len; simp only [List.length_cons] at hl hK; exact ⟨h.rk.seti (by omega), ((List.suffix_cons d t).trans (List.suffix_cons c _)).trans h.sf⟩
theorem tag_close (b : Nat) (s t x : List UInt8) (c d : UInt8) (l : List Tok) (w : World) (hR : RT w b s (c :: d :: t) x l) (hs : s.length ≤ 1073741824) (hx : x.length ≤ 1073741824) (hl : l.length ≤ 1073741823) (hE : ES w) (hbE : 1 < b) (hM : ML w) (hbM : 0 < b) :
 Calls Tryz.prog 154 #[.pointer (some ⟨b, 0, none⟩), .int .i64 3, .int .i64 2] w fun e w' =>
  StEnd w b s x l ((cutS [62] (t.dropWhile tch)).map fun u => if isNm (fold (t.takeWhile tch)) then (u, [], flsh x l ++ [(3, fold (t.takeWhile tch), [], [])]) else (u, x, l)) e w' := by
 obtain ⟨v, hR, hT⟩ := hR; obtain ⟨i0, hi, hz0, hz1, hz2⟩ := info_parts Tryz.infoTok; have hbw := hR.rk.lt; obtain ⟨a0, a1, a2, a3, f0, f1, f2, f3⟩ := hR.rk.cells; obtain ⟨K, hK⟩ : ∃ K, s.length - (c :: d :: t).length = K := ⟨_, rfl⟩; rw [hK] at a1; have hlc := hR.len; simp only [List.length_cons] at hlc; have hKb : (K : Int) + 2 ≤ (s.length : Int) := by simp only [List.length_cons] at hK; omega
 have hR0 := hR.skip2 hK; have hg0 := gb_set (b := b) (gb_refl _ w) 1 (.int .i64 ((K : Int) + 2)); have P1 := Lib.hid (pass_r _ tch do_t1 b s t x v _ hR0 (by omega)); have hnl : (t.takeWhile tch).length ≤ t.length := (List.takeWhile_prefix _).length_le; have FC := Lib.hid (fun W => folded_c (t.takeWhile tch) (by omega) W); obtain ⟨n, hn⟩ : ∃ n, n = fold (t.takeWhile tch) := ⟨_, rfl⟩; have hn20 : n.length ≤ s.length := by rw [hn, fold_len]; omega
 have NC := Lib.hid (fun W => name_c n (by omega) W); rw [← hn] at FC ⊢; clear hK hn; cases hat : cutS [62] (t.dropWhile tch) with
 | none =>
   have TC := Lib.hid (fun W h1 h2 => to_no [62] (by simp) (by simp) 0 (by omega) b s (t.dropWhile tch) x v W h1 (by omega) h2 (by simpa using hat)); clear hat; go_enter Tryz.func154, Tryz.ntmps154; go_wp2_with (first | (go_at_call 151; (with_reducible refine P1.out.mono ?_); clear P1; rintro e w1 ⟨rfl, hR1, hg1⟩) | (go_at_call 57; (with_reducible refine (FC.out _).mono ?_); rintro e w2 ⟨rfl, hb2⟩; have hR2 := hR1.of_bl hb2; have hE2 := ((hE.of_gb hg0 hbE).of_gb hg1 hbE).of_bl hb2; have hM2 := ((hM.of_gb hg0 hbM).of_gb hg1 hbM).of_bl hb2) | (go_at_call 155; refine (TC.out _ (hR2.of_bl ((Bl.refl _).alloc _)) (hM2.of_bl ((Bl.refl _).alloc _))).mono ?_; rintro e w3 ⟨rfl, hq3⟩)); all_goals have hgz := gb_trans (gb_trans hg0 hg1) (gb_trans (gb_bl (b := some b) (hb2.alloc _)) (gb_qt hq3))
   all_goals exact ⟨rfl, below_gb hgz (Nat.le_refl _) (Nat.le_of_lt hbw), FrT.of_gb hgz, rfl, _, v, (hR2.of_bl ((Bl.refl _).alloc _)).of_bl hq3.bl, hT.of_gb hgz (Nat.lt_succ_self _)⟩
 | some u =>
   have TC := Lib.hid (fun W h1 h2 => to_yes [62] (by simp) (by simp) 0 (by omega) b s (t.dropWhile tch) x u v W h1 (by omega) h2 (by simpa using hat)); clear hat; cases hN : isNm n
   · rw [hN] at NC; clear hN; go_enter Tryz.func154, Tryz.ntmps154; go_wp2_with (first | (go_at_call 151; (with_reducible refine P1.out.mono ?_); clear P1; rintro e w1 ⟨rfl, hR1, hg1⟩) | (go_at_call 57; (with_reducible refine (FC.out _).mono ?_); rintro e w2 ⟨rfl, hb2⟩; have hR2 := hR1.of_bl hb2; have hE2 := ((hE.of_gb hg0 hbE).of_gb hg1 hbE).of_bl hb2; have hM2 := ((hM.of_gb hg0 hbM).of_gb hg1 hbM).of_bl hb2) | (go_at_call 155; refine (TC.out _ (hR2.of_bl ((Bl.refl _).alloc _)) (hM2.of_bl ((Bl.refl _).alloc _))).mono ?_; rintro e w3 ⟨rfl, hR4, hg3⟩; have hbq : b < w2.heap.size := hR2.rk.lt; have hq4 := (show Tkb (w2.alloc (.cells #[.int .i64 3, .string ⟨n.toArray⟩, .slice none 0 0, .string ⟨#[]⟩] 108)) w2.heap.size 3 n (.slice none 0 0) from heap_alloc_new _ _).of_gb hg3 (by simp; omega); obtain ⟨z0, z1, z2, z3, z4, z5, z6, z7⟩ := hq4.cells; have hg4 := gb_trans (gb_trans hg0 hg1) (gb_trans (gb_bl (b := some b) (hb2.alloc _)) hg3); have hT4 := hT.of_gb hg4 (Nat.lt_succ_self _); have hE4 := hE.of_gb hg4 hbE) | (go_at_call 183; (with_reducible refine (NC.out _).mono ?_); rintro e w4 ⟨rfl, rfl⟩)); go_end0; exact ⟨below_gb hg4 (Nat.le_refl _) (Nat.le_of_lt hbw), FrT.of_gb hg4, rfl, v, hR4, hT4⟩
   · rw [hN] at NC; clear hN; have hvlt := hT.lt; have KC := Lib.hid (fun W h1 h2 h3 => flush_c b s u x l v W h1 h2 hx (by omega) h3); go_enter Tryz.func154, Tryz.ntmps154; go_wp2_with (first | (go_at_call 151; (with_reducible refine P1.out.mono ?_); clear P1; rintro e w1 ⟨rfl, hR1, hg1⟩) | (go_at_call 57; (with_reducible refine (FC.out _).mono ?_); rintro e w2 ⟨rfl, hb2⟩; have hR2 := hR1.of_bl hb2; have hE2 := ((hE.of_gb hg0 hbE).of_gb hg1 hbE).of_bl hb2; have hM2 := ((hM.of_gb hg0 hbM).of_gb hg1 hbM).of_bl hb2) | (go_at_call 155; refine (TC.out _ (hR2.of_bl ((Bl.refl _).alloc _)) (hM2.of_bl ((Bl.refl _).alloc _))).mono ?_; rintro e w3 ⟨rfl, hR4, hg3⟩; have hbq : b < w2.heap.size := hR2.rk.lt; have hq4 := (show Tkb (w2.alloc (.cells #[.int .i64 3, .string ⟨n.toArray⟩, .slice none 0 0, .string ⟨#[]⟩] 108)) w2.heap.size 3 n (.slice none 0 0) from heap_alloc_new _ _).of_gb hg3 (by simp; omega); obtain ⟨z0, z1, z2, z3, z4, z5, z6, z7⟩ := hq4.cells; have hg4 := gb_trans (gb_trans hg0 hg1) (gb_trans (gb_bl (b := some b) (hb2.alloc _)) hg3); have hT4 := hT.of_gb hg4 (Nat.lt_succ_self _); have hE4 := hE.of_gb hg4 hbE) | (go_at_call 183; (with_reducible refine (NC.out _).mono ?_); rintro e w4 ⟨rfl, rfl⟩) | (go_at_call 82; (with_reducible refine (KC.out _ hR4 hT4 hE4).mono ?_); clear a0 a1 a2 a3 f0 f1 f2 f3 z0 z1 z2 z3 z4 z5 z6 z7; rintro e w5 ⟨rfl, ⟨v5, hR5, hT5⟩, hF5⟩)); have hwq : w.heap.size ≤ w2.heap.size := Nat.le_trans (gb_trans hg0 hg1).size (Below.size hb2); have hq5 := hq4.of_fr2 hF5 (Ne.symm (Nat.ne_of_lt hbq)) (fun e => by have := (hvlt _ e.symm).2; omega); obtain ⟨a0, a1, a2, a3, f0, f1, f2, f3⟩ := hR5.rk.cells; obtain ⟨z0, z1, z2, z3, z4, z5, z6, z7⟩ := hq5.cells; have hfl : (flsh x l).length ≤ l.length + 1 := by unfold flsh; split <;> simp
     have hl5 := hT5; obtain ⟨ents, e1, e2, e3⟩ := hl5; have hel : ents.length ≤ (flsh x l).length := by rw [← e1]; simp
     have hbw5 := hR5.rk.lt; have hq5l := hq5.lt; have hB5 := hF5.below (fun j hj => by have := (hvlt j hj).1; omega) (Nat.le_of_lt hR4.rk.lt)
     go_region_law (refine step_append_own rfl (.tmp 36) (.tmp 38) 72 rfl (b + 1) 108 i0 (.agg #[.int .i64 0, .string ⟨#[]⟩, .slice none 0 0, .string ⟨#[]⟩]) 4 64 Tryz.underlying72 hi hz0 hz1 hz2 rfl (by decide) v5 ents.length (tkC ents) (by simp [Act.eval]) (own_bl e2 Bl.z) ⟨w5.heap.size, 0, none⟩ 1 1 [.int .i64 3, .string ⟨n.toArray⟩, .slice none 0 0, .string ⟨#[]⟩] (by simp [Act.eval]) rfl (new_cells w5 #[.int .i64 3, .string ⟨n.toArray⟩, .slice none 0 0, .string ⟨#[]⟩] _) (by simp [Value.oneCell']) (by unfold maxLen; omega) (by omega) (by simp; omega) ?_; intro v' wz hown' hgrow; obtain ⟨gv, cv, rfl⟩ := own_shape hown'; obtain ⟨mz1, mz2, mz3, mz4⟩ := tok_meet (t := (3, n, [], [])) hR5 e1 e2 e3 (AtO.nil _ _) hown' hgrow Bl.z; clear hown' hgrow a0 a1 a2 a3 f0 f1 f2 f3; obtain ⟨a0, a1, a2, a3, f0, f1, f2, f3⟩ := mz2.rk.cells)
     all_goals
      go_wp2; go_end0; exact ⟨((below_gb (b := b) hg4 (Nat.le_refl _) (Nat.le_of_lt hbw)).trans hB5).trans (mz3.setCell (Nat.le_refl _) _), (((FrT.of_gb hg4).trans (FrT.of_fr2 hT4 hF5)).trans mz4).trans (FrT.of_gb (gb_set (gb_refl _ _) _ _)), rfl, _, ⟨mz2.rk.set3 _, mz2.sf⟩, mz1.of_gb (gb_set (gb_refl _ _) _ _) (Nat.lt_succ_self _)⟩
end Go.Proofs.YtamdlihgecpbkaaGreatDoor

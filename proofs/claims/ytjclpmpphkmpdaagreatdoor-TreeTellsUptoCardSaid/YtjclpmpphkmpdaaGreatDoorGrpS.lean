/- Trees that are handed in: what the row's reading gives; weights. · Trees: what is built weighs no more than its tokens; what is flattened neither. · Trees: the reference's way, without its counter. · Trees: the reference's FlatOf (printed by gen_flatof.py). -/
import Derived.Test.YtjclpmpphkmpdaaGreatDoorTokOp
import Derived.Test.YtjclpmpphkmpdaaGreatDoorGrpH
import Derived.Test.YtjclpmpphkmpdaaGreatDoorTreR
import Derived.Test.YtjclpmpphkmpdaaGreatDoorTreV
import Derived.Test.YtjclpmpphkmpdaaGreatDoorGrpP
import Derived.Deep.AppendLies
namespace Go.Proofs.YtjclpmpphkmpdaaGreatDoor
open Go.RowKit Go.ChangeShapes Go.WideShapes Go.ChangeAt Go.WideElems

theorem wtA_sz (l : List Atr) : wtA l ≤ szA l := by
  induction l with
  | nil => simp [wtA]
  | cons a l ih => simp only [wtA, szA, List.map_cons, List.sum_cons] at *; omega
theorem szA_wt (l : List Atr) : szA l ≤ 6 * wtA l := by
  induction l with
  | nil => simp [szA]
  | cons a l ih => simp only [wtA, szA, List.map_cons, List.sum_cons] at *; omega
section
variable {H : Type} {enc : TypeId × Value → H} {w : World} {sp : Nat → Bool} {held : Bool}
theorem struct4n {P : Program} {base : Nat} {t : TypeId} {f0 f1 f2 f3 : Field} {fuel : Nat} {cs : List Value} {x : DataW H × List MemPlace} (ht : P.underlying t = some (.struct #[f0, f1, f2, f3])) (h : DataW.trod enc P w base sp held fuel t cs = some x) :
    ∃ y0 y1 y2 y3 n, fuel = n + 1 ∧ x.1 = .agg [y0.1, y1.1, y2.1, y3.1] ∧ cs.length = P.cellsOf t ∧ DataW.trod enc P w base sp held n f0.type ((cs.drop f0.offset).take (P.cellsOf f0.type)) = some y0 ∧
      DataW.trod enc P w base sp held n f1.type ((cs.drop f1.offset).take (P.cellsOf f1.type)) = some y1 ∧ DataW.trod enc P w base sp held n f2.type ((cs.drop f2.offset).take (P.cellsOf f2.type)) = some y2 ∧
      DataW.trod enc P w base sp held n f3.type ((cs.drop f3.offset).take (P.cellsOf f3.type)) = some y3 := by
  obtain ⟨xs, n, hn, rfl, hl, hlen, hf⟩ := DataW.trod_struct ht h
  match xs, hlen with
  | [y0, y1, y2, y3], _ => exact ⟨y0, y1, y2, y3, n, hn, by simp, hl, by simpa using hf 0 f0 rfl, by simpa using hf 1 f1 rfl, by simpa using hf 2 f2 rfl, by simpa using hf 3 f3 rfl⟩
theorem nodes_of (n : Nat) : ∀ {c : List Value} {y : DataW H × List MemPlace}, DataW.trod enc Tryz.prog w 0 sp held n 23 c = some y →
    ∃ v l, c = [v] ∧ NdS w (· < w.heap.size) v l ∧ wtL l ≤ 6 * Rows.uptoBulk y.1 := by
  induction n using Nat.strongRecOn with
  | ind n ih =>
  intro c y h
  rcases DataW.trod_slice Tryz.underlying23 h with ⟨rfl, rfl⟩ | ⟨a, len, cap, elems, rest, m, rfl, rfl, rfl, _, hc, _, hlen, hel, _, _⟩
  · exact ⟨_, [], rfl, NdS.nil _ _, by simp [wtL]⟩
  have c4 : Tryz.prog.cellsOf 51 = 4 := by kernel_rfl
  rw [c4] at hel
  obtain ⟨l, hll, hal⟩ := list_of (α := Nd) (Q := fun i d => ∃ q va vk, elems[i]? = some q ∧ w.cell? (a.add (i * 4)) = some (.string ⟨d.n.toArray⟩) ∧ w.cell? ((a.add (i * 4)).add 1) = some va ∧ w.cell? ((a.add (i * 4)).add 2) = some (.string ⟨d.x.toArray⟩) ∧ w.cell? ((a.add (i * 4)).add 3) = some vk ∧ AtP w (· < w.heap.size) va d.a ∧ NdS w (· < w.heap.size) vk d.k ∧ wtN d ≤ 6 * Rows.uptoBulk q.1) len (by
    intro i hi
    have h1 := hel i hi
    rw [List.getElem?_eq_getElem (by omega)] at h1
    obtain ⟨cs, h2, h3⟩ := Option.bind_eq_some_iff.1 h1
    obtain ⟨y0, y1, y2, y3, m2, rfl, hx, hl, k0, k1, k2, k3⟩ := struct4n Tryz.underlying51 h3
    rw [c4] at hl
    obtain ⟨x0, x1, x2, x3, rfl⟩ := four_of hl
    have c1 : Tryz.prog.cellsOf 9 = 1 := by kernel_rfl
    have c2 : Tryz.prog.cellsOf 23 = 1 := by kernel_rfl
    have c3 : Tryz.prog.cellsOf 39 = 1 := by kernel_rfl
    obtain ⟨s, e0, rfl, _⟩ := DataW.trod_string Tryz.underlying9 k0
    obtain ⟨va, al, e1, hA, hC, hz⟩ := attrs_of k1
    obtain ⟨t, e2, rfl, _⟩ := DataW.trod_string Tryz.underlying9 k2
    obtain ⟨vk, kl, e3, hN, hw⟩ := ih m2 (by omega) k3
    simp only [c1, c2, c3] at e0 e1 e2 e3
    simp at e0 e1 e2 e3
    subst e0 e1 e2 e3
    have h5 := (cells_get h2).2
    have h50 := h5 0 (by omega)
    have h51 := h5 1 (by omega)
    have h52 := h5 2 (by omega)
    have h53 := h5 3 (by omega)
    refine ⟨.mk s.data.toList al t.data.toList kl, _, x1, x3, List.getElem?_eq_getElem (by omega), by simpa [Addr.add, Nd.n] using h50, by simpa using h51, by simpa [Nd.x] using h52, by simpa using h53, AtP.of hA hC, hN, ?_⟩
    have hwa := wtA_sz al
    rw [hx]
    simp only [wtN, Rows.uptoBulk, Rows.uptoBulkAll]
    omega)
  have hsz : ∀ (L : List Nd) (E : List (DataW H × List MemPlace)), E.length = L.length → (∀ i (h : i < L.length), ∃ q, E[i]? = some q ∧ wtN L[i] ≤ 6 * Rows.uptoBulk q.1) → wtL L ≤ 6 * Rows.uptoBulkAll (E.map (·.1)) := by
    intro L
    induction L with
    | nil => intro E _ _; simp [wtL]
    | cons t L ih =>
      intro E hE hq
      match E, hE with
      | q :: E, hE =>
        obtain ⟨q', h1, h2⟩ := hq 0 (by simp)
        obtain rfl : q = q' := by simpa using h1
        have := ih E (by simpa using hE) (fun i hi => by
          obtain ⟨q'', h3, h4⟩ := hq (i + 1) (by simp; omega)
          exact ⟨q'', by simpa using h3, by simpa using h4⟩)
        simp only [List.getElem_cons_zero] at h2
        simp only [wtL, List.map_cons, Rows.uptoBulkAll] at *
        omega
  refine ⟨_, l, rfl, ⟨some a, cap, by rw [hll], by omega, fun hne => ?_⟩, ?_⟩
  · have hpos : 0 < l.length := List.length_pos_iff.2 hne
    obtain ⟨q0, va0, vk0, _, h30, _⟩ := hal 0 hpos
    have hs : a.spot = none := by
      have := World.cell?_spot h30
      simpa [Addr.add] using this
    have hlt := cell_lt h30
    rw [add_at hs] at hlt
    refine ⟨a.block, a.off, ?_, hlt, hlt, (NdL_iff l a.off).2 fun i hi => NdC_mk.2 ?_⟩
    · obtain ⟨b, o, s⟩ := a
      subst hs
      rfl
    · obtain ⟨q, va, vk, _, h3, h4, h5, h6, h7, h8, _⟩ := hal i hi
      rw [add_at hs] at h3 h4 h5 h6
      rw [add_at rfl] at h4 h5 h6
      exact ⟨va, vk, h3, h4, h5, h6, h7, h8⟩
  · simp only [Rows.uptoBulk]
    have := hsz l elems (by omega) (fun i hi => by
      obtain ⟨q, va, vk, h1, _, _, _, _, _, _, h2⟩ := hal i hi
      exact ⟨q, h1, h2⟩)
    omega
set_option maxRecDepth 100000 in
/-- A list of nodes that is handed in. -/
theorem open_nodes {r : Reach} {b0 : Nat} {v : Value} {d : DataW H} {ps : List MemPlace} (hval : Value.okWide Tryz.prog w r b0 23 v) (hd : DataW.Trod enc Tryz.prog w 0 sp held 23 v d ps) :
    ∃ l, NdS w (· < w.heap.size) v l ∧ wtL l ≤ 6 * Rows.uptoBulk d := by
  obtain ⟨a, len, cap, rfl⟩ := okWide_slice Tryz.underlying23 hval
  obtain ⟨fuel, hf⟩ := hd
  obtain ⟨va, l, h1, h2, h3⟩ := nodes_of _ hf
  simp [Value.cells] at h1
  subst h1
  exact ⟨l, h2, h3⟩
end
end Go.Proofs.YtjclpmpphkmpdaaGreatDoor

namespace Go.Proofs.YtjclpmpphkmpdaaGreatDoor
open Go.RowKit

theorem wt_app (l m : List Nd) : wtL (l ++ m) = wtL l + wtL m := by
  induction l with
  | nil => simp [wtL]
  | cons d l ih => simp only [List.cons_append, wtL, ih]; omega
theorem pt_wt (l : List Nd) (d : Nd) : wtL (pt l d) ≤ wtL l + wtN d := by
  have h0 : wtL (l ++ [d]) = wtL l + wtN d := by rw [wt_app]; simp [wtL]
  unfold pt
  split
  · rename_i a x k e
    split
    · rcases List.eq_nil_or_concat l with rfl | ⟨o, c, rfl⟩
      · simp at e
      · simp only [List.concat_eq_append, List.getLast?_append, List.getLast?_singleton, Option.some_or, Option.some.injEq, List.dropLast_concat] at *
        subst e
        rw [wt_app, wt_app]
        cases d with
        | mk n' a' x' k' =>
          simp only [wtL, wtN, Nd.x, List.length_append] at *
          omega
    · omega
  · omega
def wtF : List (Nm × List Atr × List Nd) → Nat
  | [] => 0
  | (n, a, k) :: f => 1 + n.length + wtA a + wtL k + wtF f
def wtS (s : St) : Nat := wtL s.1 + wtF s.2
theorem put_wt (s : St) (d : Nd) : wtS (put s d) ≤ wtS s + wtN d := by
  unfold put
  split
  · rename_i r
    have := pt_wt r d
    simp only [wtS, wtF]; omega
  · rename_i r n a k f
    have := pt_wt k d
    simp only [wtS, wtF]; omega
theorem pop_wt (s : St) : wtS (pop s) ≤ wtS s := by
  unfold pop
  split
  · exact Nat.le_refl _
  · rename_i r n a k f
    have := put_wt (r, f) (.mk n a [] k)
    simp only [wtS, wtF, wtN, List.length_nil] at *
    omega
theorem pops_wt (j : Nat) : ∀ s : St, wtS (pops j s) ≤ wtS s := by
  induction j with
  | zero => intro s; exact Nat.le_refl _
  | succ j ih => intro s; rw [pops_succ]; exact Nat.le_trans (ih _) (pop_wt s)
theorem opn_wt (s : St) (n : Nm) (a : List Atr) : wtS (opn s n a) ≤ wtS s + (1 + n.length + wtA a) := by
  unfold opn
  split
  · omega
  · split
    · have := put_wt s (.mk n a [] [])
      simp only [wtN, wtL, List.length_nil] at this
      omega
    · simp only [wtS, wtF, wtL]; omega
theorem stp_wt (s : St) (t : Tok) : wtS (stp s t) ≤ wtS s + (t.2.1.length + szA t.2.2.1 + 6 * t.2.2.2.length + 5) := by
  have hA := wtA_sz t.2.2.1
  unfold stp
  split
  · have := put_wt s (.mk [] [] t.2.2.2 [])
    simp only [wtN, wtL, wtA, List.map_nil, List.sum_nil, List.length_nil] at this
    omega
  · split
    · have h1 := opn_wt (pops (s.2.length - cls (nms s) t.2.1) s) t.2.1 t.2.2.1
      have h2 := pops_wt (s.2.length - cls (nms s) t.2.1) s
      omega
    · split
      · split
        · rename_i i _
          have := pops_wt (s.2.length - i) s
          omega
        · omega
      · omega
theorem foldl_wt (l : List Tok) : ∀ s : St, wtS (l.foldl stp s) ≤ wtS s + szT l := by
  induction l with
  | nil => intro s; simp
  | cons t l ih =>
    intro s
    have h1 := ih (stp s t)
    have h2 := stp_wt s t
    simp only [List.foldl_cons, szT, List.map_cons, List.sum_cons] at *
    omega
theorem wt_ofM (l : List Tok) : wtL (ofM l) ≤ szT l := by
  have h1 := foldl_wt l ([], [])
  have h2 := pops_wt (l.foldl stp ([], [])).2.length (l.foldl stp ([], []))
  have h3 : wtS (([], []) : St) = 0 := rfl
  unfold ofM fin
  have h4 : ∀ s : St, wtL s.1 ≤ wtS s := fun s => by unfold wtS; omega
  have := h4 (pops (l.foldl stp ([], [])).2.length (l.foldl stp ([], [])))
  omega
theorem szT_app (l m : List Tok) : szT (l ++ m) = szT l + szT m := by simp [szT]
theorem sz_flt (l : List Nd) : szT (fltL l) ≤ 10 * wtL l := by
  induction l using Nd.ind with
  | h0 => simp [fltL, szT]
  | h1 n a x k l ik il =>
    simp only [fltL, fltN, wtL, wtN, szT_app]
    have hA := szA_wt a
    split
    · simp only [szT, List.map_cons, List.map_nil, List.sum_cons, List.sum_nil, szA, List.length_nil] at *
      omega
    · split
      · simp only [szT, List.map_cons, List.map_nil, List.sum_cons, List.sum_nil, List.length_nil] at *
        omega
      · have h2 : szT ((2, n, a, []) :: (fltL k ++ [(3, n, [], [])])) = (n.length + szA a + 5) + (szT (fltL k) + (n.length + 5)) := by
          simp [szT, szA]
        rw [h2]
        omega
end Go.Proofs.YtjclpmpphkmpdaaGreatDoor

namespace Go.Proofs.YtjclpmpphkmpdaaGreatDoor
open Go.RowKit

theorem bld_cons (k : Nat) (r : List Nm) (t : Tok) (l : List Tok) (out : List Nd) : bld (k + 1) r (t :: l) out =
    if t.1 = 1 then bld k r l (pt out (.mk [] [] t.2.2.2 []))
    else if t.1 = 3 then (match abv t.2.1 (fun _ => false) r with | some i => (out, l, i) | none => bld k r l out)
    else if cls r t.2.1 < r.length then (out, t :: l, cls r t.2.1)
    else if r.length = 8 then bld k r l out
    else if emptyN t.2.1 = true then bld k r l (out ++ [.mk t.2.1 t.2.2.1 [] []])
    else if (bld k (t.2.1 :: r) l []).2.2 < r.length then (out ++ [.mk t.2.1 t.2.2.1 [] (bld k (t.2.1 :: r) l []).1], (bld k (t.2.1 :: r) l []).2.1, (bld k (t.2.1 :: r) l []).2.2)
    else bld k r (bld k (t.2.1 :: r) l []).2.1 (out ++ [.mk t.2.1 t.2.2.1 [] (bld k (t.2.1 :: r) l []).1]) := rfl
theorem bld_nil (k : Nat) (r : List Nm) (out : List Nd) : bld k r [] out = (out, [], r.length) := by cases k <;> rfl
theorem bld_len (k : Nat) : ∀ (r : List Nm) (l : List Tok) (out : List Nd), (bld k r l out).2.1.length ≤ l.length := by
  induction k with
  | zero => intro r l out; exact Nat.le_refl _
  | succ k ih =>
    intro r l out
    cases l with
    | nil => rw [bld_nil]; exact Nat.le_refl _
    | cons t l =>
      rw [bld_cons]
      simp only [List.length_cons]
      split
      · have := ih r l (pt out (.mk [] [] t.2.2.2 [])); omega
      split
      · split
        · simp
        · have := ih r l out; omega
      split
      · simp
      split
      · have := ih r l out; omega
      split
      · have := ih r l (out ++ [.mk t.2.1 t.2.2.1 [] []]); omega
      have h1 := ih (t.2.1 :: r) l []
      split
      · simp only []; omega
      · have h2 := ih r (bld k (t.2.1 :: r) l []).2.1 (out ++ [.mk t.2.1 t.2.2.1 [] (bld k (t.2.1 :: r) l []).1])
        omega
theorem bld_fuel (k : Nat) : ∀ (k' : Nat) (r : List Nm) (l : List Tok) (out : List Nd), l.length ≤ k → l.length ≤ k' → bld k r l out = bld k' r l out := by
  induction k with
  | zero =>
    intro k' r l out h h'
    obtain rfl := List.eq_nil_of_length_eq_zero (Nat.le_zero.1 h)
    rw [bld_nil, bld_nil]
  | succ k ih =>
    intro k' r l out h h'
    cases l with
    | nil => rw [bld_nil, bld_nil]
    | cons t l =>
      simp only [List.length_cons, Nat.add_le_add_iff_right] at h
      obtain ⟨k', rfl⟩ : ∃ j, k' = j + 1 := ⟨k' - 1, by simp only [List.length_cons] at h'; omega⟩
      simp only [List.length_cons, Nat.add_le_add_iff_right] at h'
      rw [bld_cons, bld_cons, ih k' r l _ h h', ih k' r l _ h h', ih k' r l _ h h', ih k' (t.2.1 :: r) l [] h h']
      have hl := bld_len k' (t.2.1 :: r) l []
      rw [ih k' r (bld k' (t.2.1 :: r) l []).2.1 _ (by omega) (by omega)]
/-- The reference's way. -/
def bl (r : List Nm) (l : List Tok) (out : List Nd) : List Nd × List Tok × Nat := bld l.length r l out
theorem bl_nil (r : List Nm) (out : List Nd) : bl r [] out = (out, [], r.length) := rfl
theorem bl_len (r : List Nm) (l : List Tok) (out : List Nd) : (bl r l out).2.1.length ≤ l.length := bld_len _ _ _ _
theorem bl_cons (r : List Nm) (t : Tok) (l : List Tok) (out : List Nd) : bl r (t :: l) out =
    if t.1 = 1 then bl r l (pt out (.mk [] [] t.2.2.2 []))
    else if t.1 = 3 then (match abv t.2.1 (fun _ => false) r with | some i => (out, l, i) | none => bl r l out)
    else if cls r t.2.1 < r.length then (out, t :: l, cls r t.2.1)
    else if r.length = 8 then bl r l out
    else if emptyN t.2.1 = true then bl r l (out ++ [.mk t.2.1 t.2.2.1 [] []])
    else if (bl (t.2.1 :: r) l []).2.2 < r.length then (out ++ [.mk t.2.1 t.2.2.1 [] (bl (t.2.1 :: r) l []).1], (bl (t.2.1 :: r) l []).2.1, (bl (t.2.1 :: r) l []).2.2)
    else bl r (bl (t.2.1 :: r) l []).2.1 (out ++ [.mk t.2.1 t.2.2.1 [] (bl (t.2.1 :: r) l []).1]) := by
  have h : ∀ out', bld l.length r (bl (t.2.1 :: r) l []).2.1 out' = bl r (bl (t.2.1 :: r) l []).2.1 out' := fun out' => bld_fuel _ _ _ _ _ (bl_len _ _ _) (Nat.le_refl _)
  rw [← h]
  exact bld_cons l.length r t l out
/-- What is left stands at the end. -/
theorem bld_suf (k : Nat) : ∀ (r : List Nm) (l : List Tok) (out : List Nd), ∃ j, (bld k r l out).2.1 = l.drop j := by
  induction k with
  | zero => intro r l out; exact ⟨0, rfl⟩
  | succ k ih =>
    intro r l out
    cases l with
    | nil => exact ⟨0, by rw [bld_nil]; rfl⟩
    | cons t l =>
      rw [bld_cons]
      have up : ∀ T : List Tok, (∃ j, T = l.drop j) → ∃ j, T = (t :: l).drop j := fun T ⟨j, h⟩ => ⟨j + 1, by rw [h]; rfl⟩
      split
      · exact up _ (ih r l _)
      split
      · split
        · exact ⟨1, rfl⟩
        · exact up _ (ih r l _)
      split
      · exact ⟨0, rfl⟩
      split
      · exact up _ (ih r l _)
      split
      · exact up _ (ih r l _)
      obtain ⟨j, hj⟩ := ih (t.2.1 :: r) l []
      split
      · exact up _ ⟨j, hj⟩
      · obtain ⟨j2, hj2⟩ := ih r (bld k (t.2.1 :: r) l []).2.1 (out ++ [.mk t.2.1 t.2.2.1 [] (bld k (t.2.1 :: r) l []).1])
        exact up _ ⟨j + j2, by rw [hj2, hj, List.drop_drop]⟩
theorem bl_drop (r : List Nm) (l : List Tok) (out : List Nd) : (bl r l out).2.1 = l.drop (l.length - (bl r l out).2.1.length) := by
  obtain ⟨j, hj⟩ := bld_suf l.length r l out
  have h : (bl r l out).2.1 = l.drop j := hj
  rw [h, List.length_drop]
  by_cases hjl : j ≤ l.length
  · rw [show l.length - (l.length - j) = j by omega]
  · rw [List.drop_eq_nil_of_le (by omega), show l.length - (l.length - j) = l.length by omega, List.drop_length]
theorem bld_wt (k : Nat) : ∀ (r : List Nm) (l : List Tok) (out : List Nd), wtL (bld k r l out).1 + szT (bld k r l out).2.1 ≤ wtL out + szT l := by
  induction k with
  | zero => intro r l out; exact Nat.le_refl _
  | succ k ih =>
    intro r l out
    cases l with
    | nil => rw [bld_nil]; exact Nat.le_refl _
    | cons t l =>
      rw [bld_cons]
      have hs : szT (t :: l) = (t.2.1.length + szA t.2.2.1 + 6 * t.2.2.2.length + 5) + szT l := by simp [szT]
      have hA := wtA_sz t.2.2.1
      have one : ∀ d : Nd, wtL (out ++ [d]) = wtL out + wtN d := fun d => by rw [wt_app]; simp [wtL]
      split
      · have h1 := ih r l (pt out (.mk [] [] t.2.2.2 []))
        have h2 := pt_wt out (.mk [] [] t.2.2.2 [])
        simp only [wtN, wtL, wtA, List.map_nil, List.sum_nil, List.length_nil] at h2
        omega
      split
      · split
        · simp only []; omega
        · have h1 := ih r l out; omega
      split
      · exact Nat.le_refl _
      split
      · have h1 := ih r l out; omega
      split
      · have h1 := ih r l (out ++ [.mk t.2.1 t.2.2.1 [] []])
        rw [one] at h1
        simp only [wtN, wtL, List.length_nil] at h1
        omega
      have h1 := ih (t.2.1 :: r) l []
      simp only [wtL] at h1
      split
      · simp only [one, wtN, List.length_nil]; omega
      · have h2 := ih r (bld k (t.2.1 :: r) l []).2.1 (out ++ [.mk t.2.1 t.2.2.1 [] (bld k (t.2.1 :: r) l []).1])
        rw [one] at h2
        simp only [wtN, List.length_nil] at h2
        omega
theorem bl_wt (r : List Nm) (l : List Tok) (out : List Nd) : wtL (bl r l out).1 + szT (bl r l out).2.1 ≤ wtL out + szT l := bld_wt _ _ _ _
theorem bl_ofM (l : List Tok) (ht : ∀ t ∈ l, TOk t) : (bl [] l []).1 = ofM l := ofM_bld l ht l.length (Nat.le_refl _)
end Go.Proofs.YtjclpmpphkmpdaaGreatDoor

namespace Go.Proofs.YtjclpmpphkmpdaaGreatDoor
open Go.RowKit

theorem news_tok {w : World} {B : Nat} {a b c d : Value} {t : TypeId} {fr : Nat × Nat} (h : w.heap[B]? = some (.cells #[a, b, c, d] t fr)) : ∀ j u, [a, b, c, d][j]? = some u → w.cell? ((⟨B, 0, none⟩ : Addr).add j) = some u := fun j u hj => World.news_of_block h j u (by simpa using hj)
set_option maxRecDepth 100000 in
set_option maxHeartbeats 8000000 in
theorem flatOf_c (N : Nat) : ∀ (l : List Nd) (v : Value) (P : Nat → Prop) (w : World), wtL l < N → N ≤ 10000000 → NdS w P v l →
    Calls Tryz.prog 9 #[v] w fun e w' => ∃ v', e = .returned v' ∧ TkO w' w.heap.size v' (fltL l) ∧ Bl w w' := by
  induction N with
  | zero => intro l v P w h; omega
  | succ N ih =>
    intro l v P w hN hN2 hA
    obtain ⟨i0, hi, hz0, hz1, hz2⟩ := info_parts Tryz.infoTok
    obtain ⟨j0, hj, hy0, hy1, hy2⟩ := info_parts Tryz.infoAtr
    obtain ⟨ao, cap, rfl, hcap, hA⟩ := hA.get
    have hll := cnt_len l
    have hlc := wt_cnt l
    have IH := Lib.hid ih
    have HA := Lib.hid hA
    have HN := Lib.hid hN
    clear ih hA hN
    go_enter Tryz.func9, Tryz.ntmps9
    go_wp2
    go_loopw [3, 4] (fun u i wr => ∃ k : Nat, k ≤ l.length ∧ i = .int .i64 k ∧ TkO wr w.heap.size u (fltL (l.take k)) ∧ Bl w wr) (fun _ i _ => l.length - (intOf i).toNat)
    case atStart => exact ⟨0, Nat.zero_le _, rfl, TkO.nil _ _, Bl.refl _⟩
    case round =>
      obtain ⟨k, hk, rfl, hT, hb⟩ := hrel
      by_cases hlt : k < l.length
      · obtain ⟨g, o, va, vk, rfl, hg, -, h1, h2, h3, h4, h5, h6⟩ := HA.out k hlt
        have y1 := (hb.cells.1 g _ hg).trans h1
        have y2 := (hb.cells.1 g _ hg).trans h2
        have y3 := (hb.cells.1 g _ hg).trans h3
        have y4 := (hb.cells.1 g _ hg).trans h4
        have hgr : g < wr.heap.size := Nat.lt_of_lt_of_le hg (Below.size hb)
        have hwt := wt_get l k hlt
        have hN3 := HN.out
        have hal : l[k].a.length ≤ 100000000 := by have := wtA_len l[k].a; omega
        have AC := Lib.hid (fun W (hbW : Bl w W) => h5.ats.of_bl hbW)
        have KC := Lib.hid (fun W (hbW : Bl w W) => IH.out l[k].k vk P W (by omega) (by omega) (h6.of_bl hbW))
        have EC := Lib.hid (fun W => isEmptyR_c l[k].n W)
        have HS := Lib.hid (flt_take l k hlt)
        have hl1 : (fltL (l.take k)).length + (fltN l[k]).length ≤ 20000000 := by
          have h7 := flt_len l
          have h8 : fltL l = fltL (l.take (k + 1)) ++ fltL (l.drop (k + 1)) := by rw [← flt_app, List.take_append_drop]
          rw [h8, HS.out] at h7
          simp only [List.length_append] at h7
          omega
        have HL := Lib.hid hl1
        obtain ⟨a1, n1, c1, rfl⟩ : ∃ a n c, va = .slice a n c := by obtain ⟨a, c, e, -⟩ := h5; exact ⟨a, _, c, e⟩
        obtain ⟨a2, c2, rfl⟩ : ∃ a c, vk = .slice a l[k].k.length c := by obtain ⟨a, c, e, -⟩ := h6; exact ⟨a, c, e⟩
        clear h1 h2 h3 h4 h5 h6 hl1
        obtain ⟨ents, e1, e2, e3⟩ := hT
        have E1 := Lib.hid e1
        have E2 := Lib.hid e2
        have E3 := Lib.hid e3
        have hel : ents.length ≤ 20000000 := by
          have : ents.length = (fltL (l.take k)).length := by rw [← e1, List.length_map]
          have := HL.out
          omega
        clear e1 e2 e3
        by_cases hn : l[k].n = []
        · have HT := Lib.hid (flt_txt hn)
          have hne : l[k].n.isEmpty = true := by simp [hn]
          clear EC KC AC hn
          go_wp2_with (at_builtin; (refine wpList_append_own _ rfl _ _ 22 rfl w.heap.size 41 i0 (.agg #[.int .i64 0, .string ⟨#[]⟩, .slice none 0 0, .string ⟨#[]⟩]) 4 64 Tryz.underlying22 hi hz0 hz1 hz2 rfl (by decide) u3 ents.length (tkC ents) rfl (own_bl E2.out (by repeat (first | exact Bl.refl _ | refine Bl.drew ?_ | refine Bl.alloc ?_ _))) ⟨wr.heap.size, 0, none⟩ 1 1 [.int .i64 1, .string ⟨#[]⟩, .slice none 0 0, .string ⟨l[k].x.toArray⟩] rfl rfl (new_cells wr #[.int .i64 1, .string ⟨#[]⟩, .slice none 0 0, .string ⟨l[k].x.toArray⟩] _) (by simp [Value.oneCell']) (by unfold maxLen; omega) (by omega) (by have := Below.size hb; simp; omega) ?_))
          intro v' wz hown' hgrow _
          obtain ⟨hT3, hb3⟩ := tk_more (t := (1, [], [], l[k].x)) hb E1.out E2.out E3.out (by repeat (first | exact Bl.refl _ | refine Bl.drew ?_ | refine Bl.alloc ?_ _)) (AtO.nil _ _) hown' hgrow
          clear hown' hgrow
          go_wp2
          go_roundw
          case rel => exact ⟨k + 1, by omega, by go_num, by rw [HS.out, HT.out]; exact hT3, hb3⟩
          case measure => simp [intOf]; omega
        · have hne : l[k].n.isEmpty = false := by cases e : l[k].n <;> simp_all
          have HNE := Lib.hid hn
          clear hn
          go_upto_region 7 with fail
          go_cut [3] from 26 to 41 (fun t wx => TkO wx w.heap.size t (fltL (l.take k) ++ [(2, l[k].n, l[k].a, [])]) ∧ Bl w wx)
          case first =>
            go_region_law (first | (refine step_append_ats rfl (.tmp 32) (.tmp 37) 39 rfl w.heap.size 69 j0 (.agg #[.string ⟨#[]⟩, .string ⟨#[]⟩]) 32 Tryz.underlying39 hj hy0 hy1 hy2 rfl (.slice (some ⟨wr.heap.size, 0, none⟩) 0 0) 0 [] (by simp [Act.eval]) (own_bl (World.ownsRow_made (base := w.heap.size) (e := 69) (size := 2) wr #[] 0 (Below.size hb) (by decide) rfl) (by repeat (first | exact Bl.refl _ | refine Bl.drew ?_ | refine Bl.alloc ?_ _))) (.slice a1 n1 c1) l[k].a (by simp [Act.eval]) (AC.out _ (by repeat (first | exact hb | refine Bl.drew ?_ | refine Bl.alloc ?_ _))) (by unfold maxLen; omega) (by omega) (by have := Below.size hb; simp; omega) ?_; intro v2 w2 hown2 hgrow2; have hbq : Bl wr w2 := Below.trans (show Bl wr _ from (by repeat (first | exact Bl.refl _ | refine Bl.drew ?_ | refine Bl.alloc ?_ _))) (bel_gr hgrow2 (fun j hj => by simp only [Value.ownBlock, Option.some.injEq] at hj; omega) (by simp)); have hO2 : AtO w2 w.heap.size v2 l[k].a := (by unfold AtO; simpa using hown2); obtain ⟨ao2, cc2, rfl⟩ := hO2.shape; have q1 := (hbq.cells.1 g _ hgr).trans y1; have hg2 : g < w2.heap.size := Nat.lt_of_lt_of_le hgr (Below.size hbq); clear hown2 hgrow2) | (refine step_append_own rfl (.tmp 26) (.tmp 40) 22 rfl w.heap.size 41 i0 (.agg #[.int .i64 0, .string ⟨#[]⟩, .slice none 0 0, .string ⟨#[]⟩]) 4 64 Tryz.underlying22 hi hz0 hz1 hz2 rfl (by decide) u3 ents.length (tkC ents) (by simp [Act.eval]) (own_bl E2.out (Bl.trans hbq (by repeat (first | exact Bl.refl _ | refine Bl.drew ?_ | refine Bl.alloc ?_ _)))) ⟨w2.heap.size, 0, none⟩ 1 1 [.int .i64 2, .string ⟨l[k].n.toArray⟩, .slice ao2 l[k].a.length cc2, .string ⟨#[]⟩] (by simp [Act.eval]) rfl (new_cells w2 #[.int .i64 2, .string ⟨l[k].n.toArray⟩, .slice ao2 l[k].a.length cc2, .string ⟨#[]⟩] _) (by simp [Value.oneCell']) (by unfold maxLen; omega) (by omega) (by have := Below.size hb; have := Below.size hbq; simp; omega) ?_; intro v' wz hown3 hgrow; obtain ⟨hT3, hb3⟩ := tk_more (t := (2, l[k].n, l[k].a, [])) hb E1.out E2.out E3.out (Bl.trans hbq (by repeat (first | exact Bl.refl _ | refine Bl.drew ?_ | refine Bl.alloc ?_ _))) (hO2.of_bl (by repeat (first | exact Bl.refl _ | refine Bl.drew ?_ | refine Bl.alloc ?_ _))) hown3 hgrow; clear hown3 hgrow))
            all_goals
              go_wp2_with fail
              go_meet
              case rel => first | exact ⟨hT3, hb3⟩ | exact ⟨hT3.of_bl (Bl.drew (Bl.refl _)), Bl.drew hb3⟩
          case rest =>
            obtain ⟨hT2, hb2⟩ := hcut
            have z1 := (hb2.cells.1 g _ hg).trans ((World.cell?_of_block (Below.block hb g hg)).symm.trans y1)
            have z4 := (hb2.cells.1 g _ hg).trans ((World.cell?_of_block (Below.block hb g hg)).symm.trans y4)
            have hgx : g < wc.heap.size := Nat.lt_of_lt_of_le hg (Below.size hb2)
            cases he : emptyN l[k].n
            · rw [he] at EC
              have HT := Lib.hid (flt_el HNE.out he)
              have hl6 : (fltL l[k].k).length ≤ 20000000 := by
                have := HL.out
                rw [HT.out] at this
                simp only [List.length_append] at this
                omega
              have HK := Lib.hid hl6
              obtain ⟨ents4, f1, f2, f3⟩ := hT2
              have hel4 : ents4.length ≤ 20000001 := by
                have h7 : ents4.length = (fltL (l.take k) ++ [(2, l[k].n, l[k].a, [])]).length := by rw [← f1, List.length_map]
                rw [List.length_append] at h7
                have := HL.out
                simp only [List.length_cons, List.length_nil] at h7
                omega
              have hlt4 := World.ownsRow.lt f2
              clear he
              go_upto_region 9 with (go_at_call 25; (with_reducible refine (EC.out _).mono ?_); rintro e w5 ⟨rfl, rfl⟩)
              go_region_law (first
                | (go_simp; go_at_call 9; (with_reducible refine (KC.out _ (by repeat (first | exact hb2 | refine Bl.drew ?_ | refine Bl.alloc ?_ _))).mono ?_); rintro e w6 ⟨v6, rfl, hT6, hb6⟩; have hbx6 := Bl.trans (show Bl wc _ from (by repeat (first | exact Bl.refl _ | refine Bl.drew ?_ | refine Bl.alloc ?_ _))) hb6; obtain ⟨ents6, k1, k2, k3⟩ := TkO.base_le (B' := w.heap.size) hT6 (by have := Below.size hb2; first | omega | (simp; omega)); have hel6 : ents6.length ≤ 20000000 := (by have h7 : ents6.length = (fltL l[k].k).length := (by rw [← k1, List.length_map]); have := HK.out; omega); have hbs := Below.size (hb2.trans hbx6); have q1 := (hbx6.cells.1 g _ hgx).trans z1; have hg6 : g < w6.heap.size := Nat.lt_of_lt_of_le hgx (Below.size hbx6); have hsx6 : wc.heap.size ≤ w6.heap.size := Below.size hbx6)
                | (refine step_append_row rfl (.tmp 49) (.tmp 55) 22 rfl w.heap.size w.heap.size 41 i0 (.agg #[.int .i64 0, .string ⟨#[]⟩, .slice none 0 0, .string ⟨#[]⟩]) 4 64 Tryz.underlying22 hi hz0 hz1 hz2 rfl (by decide) u3 ents4.length (tkC ents4) (by simp [Act.eval, Act.put]) (own_bl f2 (Bl.trans hbx6 (by repeat (first | exact Bl.refl _ | refine Bl.drew ?_ | refine Bl.alloc ?_ _)))) v6 ents6.length (tkC ents6) (by simp [Act.eval, Act.put]) (own_bl k2 (by repeat (first | exact Bl.refl _ | refine Bl.drew ?_ | refine Bl.alloc ?_ _))) (tkC_one ents6 (fun p hp => (k3 p hp).one)) (by unfold maxLen; omega) (by omega) (by first | omega | (simp; omega)) ?_; intro v7 w7 hown7 hgrow7; obtain ⟨hT7, hb7⟩ := tks_more hb2 f1 f2 f3 (Bl.trans hbx6 (by repeat (first | exact Bl.refl _ | refine Bl.drew ?_ | refine Bl.alloc ?_ _))) k1 (fun p hp => (k3 p hp).of_bl (by repeat (first | exact Bl.refl _ | refine Bl.drew ?_ | refine Bl.alloc ?_ _))) hown7 hgrow7; have q7 := (hgrow7.cell_far ⟨g, o + k * 4, none⟩ (by first | exact hg6 | (simp; omega)) (fun e => by have := hlt4 g e.symm; have := Below.size hb; omega)); have hgr7 := hgrow7; obtain ⟨ents7, m1, m2, m3⟩ := hT7; have hel7 : ents7.length ≤ 40000001 := (by have h7 : ents7.length = (fltL (l.take k) ++ [(2, l[k].n, l[k].a, [])] ++ fltL l[k].k).length := (by rw [← m1, List.length_map]); rw [List.length_append, ← f1, ← k1] at h7; simp only [List.length_map] at h7; omega); clear hown7)
                | (refine step_append_own rfl (.tmp 56) (.tmp 63) 22 rfl w.heap.size 41 i0 (.agg #[.int .i64 0, .string ⟨#[]⟩, .slice none 0 0, .string ⟨#[]⟩]) 4 64 Tryz.underlying22 hi hz0 hz1 hz2 rfl (by decide) v7 ents7.length (tkC ents7) (by simp [Act.eval]) (own_bl m2 (by repeat (first | exact Bl.refl _ | refine Bl.drew ?_ | refine Bl.alloc ?_ _))) ⟨w7.heap.size, 0, none⟩ 1 1 [.int .i64 3, .string ⟨l[k].n.toArray⟩, .slice none 0 0, .string ⟨#[]⟩] (by simp [Act.eval]) rfl (new_cells w7 #[.int .i64 3, .string ⟨l[k].n.toArray⟩, .slice none 0 0, .string ⟨#[]⟩] _) (by simp [Value.oneCell']) (by unfold maxLen; omega) (by omega) (by have := Below.size hb7; first | omega | (simp; omega)) ?_; intro v8 w8 hown8 hgrow8; obtain ⟨hT8, hb8⟩ := tk_more (t := (3, l[k].n, [], [])) hb7 m1 m2 m3 (by repeat (first | exact Bl.refl _ | refine Bl.drew ?_ | refine Bl.alloc ?_ _)) (AtO.nil _ _) hown8 hgrow8; clear hown8 hgrow8)
                | (refine step_append_own rfl (.tmp 56) (.tmp 63) 22 rfl w.heap.size 41 i0 (.agg #[.int .i64 0, .string ⟨#[]⟩, .slice none 0 0, .string ⟨#[]⟩]) 4 64 Tryz.underlying22 hi hz0 hz1 hz2 rfl (by decide) v7 ents7.length (tkC ents7) (by simp [Act.eval]) (own_bl m2 (by repeat (first | exact Bl.refl _ | refine Bl.drew ?_ | refine Bl.alloc ?_ _))) ⟨w6.heap.size, 0, none⟩ 1 1 [.int .i64 3, .string ⟨l[k].n.toArray⟩, .slice none 0 0, .string ⟨#[]⟩] (by simp [Act.eval]) rfl (news_tok ((hgrow7.block w6.heap.size (by simp) (fun e => by have := hlt4 _ e.symm; omega)).trans (heap_alloc_new w6 _))) (by simp [Value.oneCell']) (by unfold maxLen; omega) (by omega) (by have := Below.size hb7; first | omega | (simp; omega)) ?_; intro v8 w8 hown8 hgrow8; obtain ⟨hT8, hb8⟩ := tk_more (t := (3, l[k].n, [], [])) hb7 m1 m2 m3 (by repeat (first | exact Bl.refl _ | refine Bl.drew ?_ | refine Bl.alloc ?_ _)) (AtO.nil _ _) hown8 hgrow8; clear hown8 hgrow8)
                | (refine step_append_own rfl (.tmp 56) (.tmp 63) 22 rfl w.heap.size 41 i0 (.agg #[.int .i64 0, .string ⟨#[]⟩, .slice none 0 0, .string ⟨#[]⟩]) 4 64 Tryz.underlying22 hi hz0 hz1 hz2 rfl (by decide) v7 ents7.length (tkC ents7) (by simp [Act.eval]) (own_bl m2 (by repeat (first | exact Bl.refl _ | refine Bl.drew ?_ | refine Bl.alloc ?_ _))) ⟨wc.heap.size, 0, none⟩ 1 1 [.int .i64 3, .string ⟨l[k].n.toArray⟩, .slice none 0 0, .string ⟨#[]⟩] (by simp [Act.eval]) rfl (news_tok ((hgrow7.block wc.heap.size (by have h9 := Below.size hb6; first | (simp at h9; omega) | (simp at h9 ⊢; omega)) (fun e => by have := hlt4 _ e.symm; omega)).trans ((Below.block hb6 wc.heap.size (by simp)).trans (heap_alloc_new wc _)))) (by simp [Value.oneCell']) (by unfold maxLen; omega) (by omega) (by have := Below.size hb7; first | omega | (simp; omega)) ?_; intro v8 w8 hown8 hgrow8; obtain ⟨hT8, hb8⟩ := tk_more (t := (3, l[k].n, [], [])) hb7 m1 m2 m3 (by repeat (first | exact Bl.refl _ | refine Bl.drew ?_ | refine Bl.alloc ?_ _)) (AtO.nil _ _) hown8 hgrow8; clear hown8 hgrow8))
              all_goals
                go_wp2
                go_roundw
                case rel => exact ⟨k + 1, by omega, by go_num, by rw [HS.out, HT.out, ← List.append_assoc, ← List.append_assoc]; first | exact hT8 | exact hT8.of_bl (Bl.drew (Bl.refl _)), by repeat (first | exact hb8 | refine Bl.drew ?_)⟩
                case measure => simp [intOf]; omega
            · rw [he] at EC
              have HT := Lib.hid (flt_emp HNE.out he)
              clear he
              go_wp2_with (go_at_call 25; (with_reducible refine (EC.out _).mono ?_); rintro e w5 ⟨rfl, rfl⟩)
              go_roundw
              case rel => exact ⟨k + 1, by omega, by go_num, by rw [HS.out, HT.out]; exact hT2, hb2⟩
              case measure => simp [intOf]; omega
      · have HE := Lib.hid (show l.take k = l from List.take_of_length_le (by omega))
        go_wp2
        go_ret
        exact ⟨_, rfl, by rw [← HE.out]; exact hT, hb⟩
end Go.Proofs.YtjclpmpphkmpdaaGreatDoor

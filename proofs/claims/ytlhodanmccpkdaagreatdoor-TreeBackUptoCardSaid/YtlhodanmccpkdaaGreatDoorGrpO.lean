/- Trees that are handed in: what the row's reading gives; weights. · Trees: what is built weighs no more than its tokens; what is flattened neither. -/
import Derived.Test.YtlhodanmccpkdaaGreatDoorGrpM
import Derived.Test.YtlhodanmccpkdaaGreatDoorGrpF
import Derived.Test.YtlhodanmccpkdaaGreatDoorTreR
import Derived.Test.YtlhodanmccpkdaaGreatDoorTreV
namespace Go.Proofs.YtlhodanmccpkdaaGreatDoor
open Go.RowKit Go.ChangeShapes Go.WideShapes Go.ChangeAt Go.WideElems

theorem wtA_sz (l : List Atr) : wtA l ≤ szA l := by
  induction l with
  | nil => simp [wtA]
  | cons a l ih => simp only [wtA, szA, List.map_cons, List.sum_cons] at *; omega
theorem szA_wt (l : List Atr) : szA l ≤ 6 * wtA l := by
  induction l with
  | nil => simp [szA]
  | cons a l ih => simp only [wtA, szA, List.map_cons, List.sum_cons] at *; omega
section
variable {H : Type} {enc : TypeId × Value → H} {w : World} {sp : Nat → Bool} {held : Bool}
theorem struct4n {P : Program} {base : Nat} {t : TypeId} {f0 f1 f2 f3 : Field} {fuel : Nat} {cs : List Value} {x : DataW H × List MemPlace} (ht : P.underlying t = some (.struct #[f0, f1, f2, f3])) (h : DataW.trod enc P w base sp held fuel t cs = some x) :
    ∃ y0 y1 y2 y3 n, fuel = n + 1 ∧ x.1 = .agg [y0.1, y1.1, y2.1, y3.1] ∧ cs.length = P.cellsOf t ∧ DataW.trod enc P w base sp held n f0.type ((cs.drop f0.offset).take (P.cellsOf f0.type)) = some y0 ∧
      DataW.trod enc P w base sp held n f1.type ((cs.drop f1.offset).take (P.cellsOf f1.type)) = some y1 ∧ DataW.trod enc P w base sp held n f2.type ((cs.drop f2.offset).take (P.cellsOf f2.type)) = some y2 ∧
      DataW.trod enc P w base sp held n f3.type ((cs.drop f3.offset).take (P.cellsOf f3.type)) = some y3 := by
  obtain ⟨xs, n, hn, rfl, hl, hlen, hf⟩ := DataW.trod_struct ht h
  match xs, hlen with
  | [y0, y1, y2, y3], _ => exact ⟨y0, y1, y2, y3, n, hn, by simp, hl, by simpa using hf 0 f0 rfl, by simpa using hf 1 f1 rfl, by simpa using hf 2 f2 rfl, by simpa using hf 3 f3 rfl⟩
theorem nodes_of (n : Nat) : ∀ {c : List Value} {y : DataW H × List MemPlace}, DataW.trod enc Tryz.prog w 0 sp held n 23 c = some y →
    ∃ v l, c = [v] ∧ NdS w (· < w.heap.size) v l ∧ wtL l ≤ 6 * Rows.uptoBulk y.1 := by
  induction n using Nat.strongRecOn with
  | ind n ih =>
  intro c y h
  rcases DataW.trod_slice Tryz.underlying23 h with ⟨rfl, rfl⟩ | ⟨a, len, cap, elems, rest, m, rfl, rfl, rfl, _, hc, _, hlen, hel, _, _⟩
  · exact ⟨_, [], rfl, NdS.nil _ _, by simp [wtL]⟩
  have c4 : Tryz.prog.cellsOf 45 = 4 := by kernel_rfl
  rw [c4] at hel
  obtain ⟨l, hll, hal⟩ := list_of (α := Nd) (Q := fun i d => ∃ q va vk, elems[i]? = some q ∧ w.cell? (a.add (i * 4)) = some (.string ⟨d.n.toArray⟩) ∧ w.cell? ((a.add (i * 4)).add 1) = some va ∧ w.cell? ((a.add (i * 4)).add 2) = some (.string ⟨d.x.toArray⟩) ∧ w.cell? ((a.add (i * 4)).add 3) = some vk ∧ AtP w (· < w.heap.size) va d.a ∧ NdS w (· < w.heap.size) vk d.k ∧ wtN d ≤ 6 * Rows.uptoBulk q.1) len (by
    intro i hi
    have h1 := hel i hi
    rw [List.getElem?_eq_getElem (by omega)] at h1
    obtain ⟨cs, h2, h3⟩ := Option.bind_eq_some_iff.1 h1
    obtain ⟨y0, y1, y2, y3, m2, rfl, hx, hl, k0, k1, k2, k3⟩ := struct4n Tryz.underlying45 h3
    rw [c4] at hl
    obtain ⟨x0, x1, x2, x3, rfl⟩ := four_of hl
    have c1 : Tryz.prog.cellsOf 9 = 1 := by kernel_rfl
    have c2 : Tryz.prog.cellsOf 23 = 1 := by kernel_rfl
    have c3 : Tryz.prog.cellsOf 28 = 1 := by kernel_rfl
    obtain ⟨s, e0, rfl, _⟩ := DataW.trod_string Tryz.underlying9 k0
    obtain ⟨va, al, e1, hA, hC, hz⟩ := attrs_of k1
    obtain ⟨t, e2, rfl, _⟩ := DataW.trod_string Tryz.underlying9 k2
    obtain ⟨vk, kl, e3, hN, hw⟩ := ih m2 (by omega) k3
    simp only [c1, c2, c3] at e0 e1 e2 e3
    simp at e0 e1 e2 e3
    subst e0 e1 e2 e3
    have h5 := (cells_get h2).2
    have h50 := h5 0 (by omega)
    have h51 := h5 1 (by omega)
    have h52 := h5 2 (by omega)
    have h53 := h5 3 (by omega)
    refine ⟨.mk s.data.toList al t.data.toList kl, _, x1, x3, List.getElem?_eq_getElem (by omega), by simpa [Addr.add, Nd.n] using h50, by simpa using h51, by simpa [Nd.x] using h52, by simpa using h53, AtP.of hA hC, hN, ?_⟩
    have hwa := wtA_sz al
    rw [hx]
    simp only [wtN, Rows.uptoBulk, Rows.uptoBulkAll]
    omega)
  have hsz : ∀ (L : List Nd) (E : List (DataW H × List MemPlace)), E.length = L.length → (∀ i (h : i < L.length), ∃ q, E[i]? = some q ∧ wtN L[i] ≤ 6 * Rows.uptoBulk q.1) → wtL L ≤ 6 * Rows.uptoBulkAll (E.map (·.1)) := by
    intro L
    induction L with
    | nil => intro E _ _; simp [wtL]
    | cons t L ih =>
      intro E hE hq
      match E, hE with
      | q :: E, hE =>
        obtain ⟨q', h1, h2⟩ := hq 0 (by simp)
        obtain rfl : q = q' := by simpa using h1
        have := ih E (by simpa using hE) (fun i hi => by
          obtain ⟨q'', h3, h4⟩ := hq (i + 1) (by simp; omega)
          exact ⟨q'', by simpa using h3, by simpa using h4⟩)
        simp only [List.getElem_cons_zero] at h2
        simp only [wtL, List.map_cons, Rows.uptoBulkAll] at *
        omega
  refine ⟨_, l, rfl, ⟨some a, cap, by rw [hll], by omega, fun hne => ?_⟩, ?_⟩
  · have hpos : 0 < l.length := List.length_pos_iff.2 hne
    obtain ⟨q0, va0, vk0, _, h30, _⟩ := hal 0 hpos
    have hs : a.spot = none := by
      have := World.cell?_spot h30
      simpa [Addr.add] using this
    have hlt := cell_lt h30
    rw [add_at hs] at hlt
    refine ⟨a.block, a.off, ?_, hlt, hlt, (NdL_iff l a.off).2 fun i hi => NdC_mk.2 ?_⟩
    · obtain ⟨b, o, s⟩ := a
      subst hs
      rfl
    · obtain ⟨q, va, vk, _, h3, h4, h5, h6, h7, h8, _⟩ := hal i hi
      rw [add_at hs] at h3 h4 h5 h6
      rw [add_at rfl] at h4 h5 h6
      exact ⟨va, vk, h3, h4, h5, h6, h7, h8⟩
  · simp only [Rows.uptoBulk]
    have := hsz l elems (by omega) (fun i hi => by
      obtain ⟨q, va, vk, h1, _, _, _, _, _, _, h2⟩ := hal i hi
      exact ⟨q, h1, h2⟩)
    omega
set_option maxRecDepth 100000 in
/-- A list of nodes that is handed in. -/
theorem open_nodes {r : Reach} {b0 : Nat} {v : Value} {d : DataW H} {ps : List MemPlace} (hval : Value.okWide Tryz.prog w r b0 23 v) (hd : DataW.Trod enc Tryz.prog w 0 sp held 23 v d ps) :
    ∃ l, NdS w (· < w.heap.size) v l ∧ wtL l ≤ 6 * Rows.uptoBulk d := by
  obtain ⟨a, len, cap, rfl⟩ := okWide_slice Tryz.underlying23 hval
  obtain ⟨fuel, hf⟩ := hd
  obtain ⟨va, l, h1, h2, h3⟩ := nodes_of _ hf
  simp [Value.cells] at h1
  subst h1
  exact ⟨l, h2, h3⟩
end
end Go.Proofs.YtlhodanmccpkdaaGreatDoor

namespace Go.Proofs.YtlhodanmccpkdaaGreatDoor
open Go.RowKit

theorem wt_app (l m : List Nd) : wtL (l ++ m) = wtL l + wtL m := by
  induction l with
  | nil => simp [wtL]
  | cons d l ih => simp only [List.cons_append, wtL, ih]; omega
theorem pt_wt (l : List Nd) (d : Nd) : wtL (pt l d) ≤ wtL l + wtN d := by
  have h0 : wtL (l ++ [d]) = wtL l + wtN d := by rw [wt_app]; simp [wtL]
  unfold pt
  split
  · rename_i a x k e
    split
    · rcases List.eq_nil_or_concat l with rfl | ⟨o, c, rfl⟩
      · simp at e
      · simp only [List.concat_eq_append, List.getLast?_append, List.getLast?_singleton, Option.some_or, Option.some.injEq, List.dropLast_concat] at *
        subst e
        rw [wt_app, wt_app]
        cases d with
        | mk n' a' x' k' =>
          simp only [wtL, wtN, Nd.x, List.length_append] at *
          omega
    · omega
  · omega
def wtF : List (Nm × List Atr × List Nd) → Nat
  | [] => 0
  | (n, a, k) :: f => 1 + n.length + wtA a + wtL k + wtF f
def wtS (s : St) : Nat := wtL s.1 + wtF s.2
theorem put_wt (s : St) (d : Nd) : wtS (put s d) ≤ wtS s + wtN d := by
  unfold put
  split
  · rename_i r
    have := pt_wt r d
    simp only [wtS, wtF]; omega
  · rename_i r n a k f
    have := pt_wt k d
    simp only [wtS, wtF]; omega
theorem pop_wt (s : St) : wtS (pop s) ≤ wtS s := by
  unfold pop
  split
  · exact Nat.le_refl _
  · rename_i r n a k f
    have := put_wt (r, f) (.mk n a [] k)
    simp only [wtS, wtF, wtN, List.length_nil] at *
    omega
theorem pops_wt (j : Nat) : ∀ s : St, wtS (pops j s) ≤ wtS s := by
  induction j with
  | zero => intro s; exact Nat.le_refl _
  | succ j ih => intro s; rw [pops_succ]; exact Nat.le_trans (ih _) (pop_wt s)
theorem opn_wt (s : St) (n : Nm) (a : List Atr) : wtS (opn s n a) ≤ wtS s + (1 + n.length + wtA a) := by
  unfold opn
  split
  · omega
  · split
    · have := put_wt s (.mk n a [] [])
      simp only [wtN, wtL, List.length_nil] at this
      omega
    · simp only [wtS, wtF, wtL]; omega
theorem stp_wt (s : St) (t : Tok) : wtS (stp s t) ≤ wtS s + (t.2.1.length + szA t.2.2.1 + 6 * t.2.2.2.length + 5) := by
  have hA := wtA_sz t.2.2.1
  unfold stp
  split
  · have := put_wt s (.mk [] [] t.2.2.2 [])
    simp only [wtN, wtL, wtA, List.map_nil, List.sum_nil, List.length_nil] at this
    omega
  · split
    · have h1 := opn_wt (pops (s.2.length - cls (nms s) t.2.1) s) t.2.1 t.2.2.1
      have h2 := pops_wt (s.2.length - cls (nms s) t.2.1) s
      omega
    · split
      · split
        · rename_i i _
          have := pops_wt (s.2.length - i) s
          omega
        · omega
      · omega
theorem foldl_wt (l : List Tok) : ∀ s : St, wtS (l.foldl stp s) ≤ wtS s + szT l := by
  induction l with
  | nil => intro s; simp
  | cons t l ih =>
    intro s
    have h1 := ih (stp s t)
    have h2 := stp_wt s t
    simp only [List.foldl_cons, szT, List.map_cons, List.sum_cons] at *
    omega
theorem wt_ofM (l : List Tok) : wtL (ofM l) ≤ szT l := by
  have h1 := foldl_wt l ([], [])
  have h2 := pops_wt (l.foldl stp ([], [])).2.length (l.foldl stp ([], []))
  have h3 : wtS (([], []) : St) = 0 := rfl
  unfold ofM fin
  have h4 : ∀ s : St, wtL s.1 ≤ wtS s := fun s => by unfold wtS; omega
  have := h4 (pops (l.foldl stp ([], [])).2.length (l.foldl stp ([], [])))
  omega
theorem szT_app (l m : List Tok) : szT (l ++ m) = szT l + szT m := by simp [szT]
theorem sz_flt (l : List Nd) : szT (fltL l) ≤ 10 * wtL l := by
  induction l using Nd.ind with
  | h0 => simp [fltL, szT]
  | h1 n a x k l ik il =>
    simp only [fltL, fltN, wtL, wtN, szT_app]
    have hA := szA_wt a
    split
    · simp only [szT, List.map_cons, List.map_nil, List.sum_cons, List.sum_nil, szA, List.length_nil] at *
      omega
    · split
      · simp only [szT, List.map_cons, List.map_nil, List.sum_cons, List.sum_nil, List.length_nil] at *
        omega
      · have h2 : szT ((2, n, a, []) :: (fltL k ++ [(3, n, [], [])])) = (n.length + szA a + 5) + (szT (fltL k) + (n.length + 5)) := by
          simp [szT, szA]
        rw [h2]
        omega
end Go.Proofs.YtlhodanmccpkdaaGreatDoor

/- Documents: Check. · Documents: what is read weighs little; what Check lets by. -/
import Derived.Test.YtkacjnifhmgeiaaGreatDoorXmlN
import Derived.Test.YtkacjnifhmgeiaaGreatDoorXmlE
import Derived.Test.YtkacjnifhmgeiaaGreatDoorXmlI
namespace Go.Proofs.YtkacjnifhmgeiaaGreatDoor
open Go.RowKit

/-- What Check answers. -/
def ckX (d : Nd) : Int := if 3000 < manyL 8 [d] ∨ 8 < deepL 8 [d] then 2 else if d.n = [] then 1 else cxN false d
theorem nds_one {w : World} {q : Nat} {d : Nd} {va vk : Value} {P : Nat → Prop} (hN : Nb w q d.n va d.x vk) (ha : AtP w P va d.a) (hk : NdS w P vk d.k) : NdS w (fun k => P k ∨ k = q) (.slice (some ⟨q, 0, none⟩) 1 1) [d] := by
  obtain ⟨h0, h1, h2, h3, -⟩ := hN.cells
  refine ⟨some ⟨q, 0, none⟩, 1, rfl, Nat.le_refl _, fun _ => ⟨q, 0, rfl, hN.lt, Or.inr rfl, ?_, trivial⟩⟩
  exact NdC_mk.2 ⟨va, vk, h0, h1, h2, h3, ha.mono (fun k h => Or.inl h), hk.mono (fun k h => Or.inl h)⟩
set_option maxRecDepth 100000 in
set_option maxHeartbeats 4000000 in
theorem checkX_c (d : Nd) (va vk : Value) (P : Nat → Prop) (w : World) (hN : wtN d ≤ 9000000) (hA : AtP w P va d.a) (hK : NdS w P vk d.k) :
    Calls Tryz.prog 13 #[.agg #[.string ⟨d.n.toArray⟩, va, .string ⟨d.x.toArray⟩, vk]] w fun e w' => e = .returned (.int .i64 (ckX d)) ∧ Bl w w' := by
  obtain ⟨ao, ac, rfl, -⟩ := id hA
  obtain ⟨ko, kc, rfl, -⟩ := id hK
  have hw := wtN_mk d
  have hlc := wt_cnt d.k
  have hcn : cntL [d] ≤ 100000000 := by cases d; simp only [cntL, cntN, Nd.k] at *; omega
  have hb1 := (Bl.refl w).alloc (.cells #[.string ⟨d.n.toArray⟩, .slice ao d.a.length ac, .string ⟨d.x.toArray⟩, .slice ko d.k.length kc] 25)
  have hP1 := nb_par w d.n d.x ao d.a.length ac ko d.k.length kc
  have hb2 := hb1.alloc (.cells #[.string ⟨d.n.toArray⟩, .slice ao d.a.length ac, .string ⟨d.x.toArray⟩, .slice ko d.k.length kc] 25)
  have hP2 := nb_par (w.alloc (.cells #[.string ⟨d.n.toArray⟩, .slice ao d.a.length ac, .string ⟨d.x.toArray⟩, .slice ko d.k.length kc] 25)) d.n d.x ao d.a.length ac ko d.k.length kc
  have SC := Lib.hid (size_c 8 [d] _ _ _ hcn (by omega) (nds_one hP2 (hA.still (Still.of_bl hb2)) (hK.of_bl hb2)))
  have hP12 := hP1.of_bl ((Bl.refl _).alloc (.cells #[.string ⟨d.n.toArray⟩, .slice ao d.a.length ac, .string ⟨d.x.toArray⟩, .slice ko d.k.length kc] 25))
  have NC := Lib.hid (fun W (hbW : Bl w W) => nodeX_c 9000001 d (.slice ao d.a.length ac) (.slice ko d.k.length kc) P W (by omega) (by omega) (hA.still (Still.of_bl hbW)) (hK.of_bl hbW))
  rw [alloc_size] at SC
  obtain ⟨M, hM⟩ : ∃ M, M = manyL 8 [d] := ⟨_, rfl⟩
  obtain ⟨D, hD⟩ : ∃ D, D = deepL 8 [d] := ⟨_, rfl⟩
  have HC := Lib.hid (show ckX d = if 3000 < M ∨ 8 < D then 2 else if d.n = [] then 1 else cxN false d by rw [hM, hD]; rfl)
  rw [← hM, ← hD] at SC
  have SC2 : Hid (Calls Tryz.prog 27 #[.slice (some ⟨w.heap.size + 1, 0, none⟩) 1 1, .int .i64 8] ((w.alloc (.cells #[.string ⟨d.n.toArray⟩, .slice ao d.a.length ac, .string ⟨d.x.toArray⟩, .slice ko d.k.length kc] 25)).alloc (.cells #[.string ⟨d.n.toArray⟩, .slice ao d.a.length ac, .string ⟨d.x.toArray⟩, .slice ko d.k.length kc] 25)) fun e w' => e = .returned (.tuple #[.int .i64 (M : Nat), .int .i64 (D : Nat)]) ∧ Bl ((w.alloc (.cells #[.string ⟨d.n.toArray⟩, .slice ao d.a.length ac, .string ⟨d.x.toArray⟩, .slice ko d.k.length kc] 25)).alloc (.cells #[.string ⟨d.n.toArray⟩, .slice ao d.a.length ac, .string ⟨d.x.toArray⟩, .slice ko d.k.length kc] 25)) w') := SC
  have hPW : Hid (∀ w3, Bl ((w.alloc (.cells #[.string ⟨d.n.toArray⟩, .slice ao d.a.length ac, .string ⟨d.x.toArray⟩, .slice ko d.k.length kc] 25)).alloc (.cells #[.string ⟨d.n.toArray⟩, .slice ao d.a.length ac, .string ⟨d.x.toArray⟩, .slice ko d.k.length kc] 25)) w3 → Nb w3 w.heap.size d.n (.slice ao d.a.length ac) d.x (.slice ko d.k.length kc) ∧ Bl w w3) := Lib.hid (fun w3 h => ⟨hP12.of_bl h, hb2.trans h⟩)
  clear SC hM hD hP1 hP2 hP12 hb1 hb2
  have hs1 : M < 3001 ∨ 3000 < M := by omega
  by_cases hm : 3000 < M
  · have hm' : (3000 : Int) < (M : Int) := by omega
    have HR := Lib.hid (show ckX d = 2 by rw [HC.out, if_pos (Or.inl hm)])
    go_enter Tryz.func13, Tryz.ntmps13
    go_wp2_with (go_at_call 27; (with_reducible refine SC2.out.mono ?_); rintro e w3 ⟨rfl, hb3⟩; obtain ⟨hN3, hb3'⟩ := hPW.out _ hb3)
    go_ret
    exact ⟨ret_int HR.out.symm, hb3'⟩
  · have hm' : ¬ (3000 : Int) < (M : Int) := by omega
    by_cases hd : 8 < D
    · have hd' : (8 : Int) < (D : Int) := by omega
      have HR := Lib.hid (show ckX d = 2 by rw [HC.out, if_pos (Or.inr hd)])
      go_enter Tryz.func13, Tryz.ntmps13
      go_wp2_with (go_at_call 27; (with_reducible refine SC2.out.mono ?_); rintro e w3 ⟨rfl, hb3⟩; obtain ⟨hN3, hb3'⟩ := hPW.out _ hb3)
      go_ret
      exact ⟨ret_int HR.out.symm, hb3'⟩
    · have hd' : ¬ (8 : Int) < (D : Int) := by omega
      by_cases hn : d.n = []
      · have hne : d.n.isEmpty = true := by simp [hn]
        have HR := Lib.hid (show ckX d = 1 by rw [HC.out, if_neg (by omega), if_pos hn])
        clear hn
        go_enter Tryz.func13, Tryz.ntmps13
        go_wp2_with (go_at_call 27; (with_reducible refine SC2.out.mono ?_); rintro e w3 ⟨rfl, hb3⟩; obtain ⟨hN3, hb3'⟩ := hPW.out _ hb3; obtain ⟨p0, p1, p2, p3, -⟩ := hN3.cells)
        go_ret
        exact ⟨ret_int HR.out.symm, hb3'⟩
      · have hne : d.n.isEmpty = false := emp2 hn
        have HR := Lib.hid (show ckX d = cxN false d by rw [HC.out, if_neg (by omega), if_neg hn])
        clear hn
        go_enter Tryz.func13, Tryz.ntmps13
        go_wp2_with (first | (go_at_call 27; (with_reducible refine SC2.out.mono ?_); rintro e w3 ⟨rfl, hb3⟩; obtain ⟨hN3, hb3'⟩ := hPW.out _ hb3; obtain ⟨p0, p1, p2, p3, -⟩ := hN3.cells) | (go_at_call 28; (with_reducible refine (NC.out _ hb3').mono ?_); rintro e w4 ⟨rfl, hb4⟩))
        go_ret
        exact ⟨ret_int HR.out.symm, hb3'.trans hb4⟩
end Go.Proofs.YtkacjnifhmgeiaaGreatDoor

namespace Go.Proofs.YtkacjnifhmgeiaaGreatDoor
open Go.RowKit

theorem deep_ge (l : List Nd) : ∀ f, deepL f l ≤ f → dpL l ≤ f := by
  induction l using Nd.ind with
  | h0 => intro f _; simp [dpL]
  | h1 n a x k l ik il =>
    intro f h
    simp only [deepL, dpL, deepN, dpN] at h ⊢
    have h2 := il f (by omega)
    by_cases hn : n = []
    · simp only [if_pos hn] at h ⊢; omega
    · simp only [if_neg hn] at h ⊢
      cases f with
      | zero => simp only [] at h; omega
      | succ f => simp only [] at h; have := ik f (by omega); omega
theorem ckX_right {d : Nd} (h : ckX d = 0) : d.n ≠ [] ∧ cxN false d = 0 ∧ dpN d ≤ 8 := by
  unfold ckX at h
  split at h
  · cases h
  · rename_i h1
    split at h
    · cases h
    · rename_i h2
      refine ⟨h2, h, ?_⟩
      have := deep_ge [d] 8 (by omega)
      simp only [dpL] at this; omega
theorem ckX_of {d : Nd} (h1 : d.n ≠ []) (h2 : cxN false d = 0) (h3 : dpN d ≤ 8) (h4 : cntN d ≤ 3000) : ckX d = 0 := by
  have e1 := deep_le [d] 8
  have e2 := many_le [d] 8
  simp only [dpL, cntL] at e1 e2
  unfold ckX
  rw [if_neg (by omega), if_neg h1, h2]
theorem vaX_wt {t v r : List UInt8} (h : vaX t = .ok (v, r)) : v.length + 5 * r.length + 5 ≤ 5 * t.length := by
  rw [vaX_eq] at h
  generalize (if pre [39] (wsX ((wsX t).drop 1)) = true then (39 : UInt8) else 34) = q at h
  have w1 := wsX_len t
  have w2 := wsX_len ((wsX t).drop 1)
  rw [List.length_drop] at w2
  split at h
  · cases h
  · rename_i h1
    have p1 := pre_len (by simpa using h1 : pre [61] (wsX t) = true)
    simp only [List.length_singleton] at p1
    split at h
    · cases h
    · cases h3 : toS [q] ((wsX ((wsX t).drop 1)).drop 1) with
      | none => rw [h3] at h; cases h
      | some vr =>
        obtain ⟨v0, r0⟩ := vr
        rw [h3] at h
        simp only [] at h
        have l3 := (toS_len2 h3 (by simp)).1
        rw [List.length_drop] at l3
        have tk := Tk_len v0.length v0 (Nat.le_refl _)
        split at h
        · cases h
        · split at h
          · simp only [Except.ok.injEq, Prod.mk.injEq] at h
            obtain ⟨rfl, rfl⟩ := h
            omega
          · cases h
theorem wtA_snoc (l : List Atr) (a : Atr) : wtA (l ++ [a]) = wtA l + (1 + a.1.length + a.2.length) := by simp [wtA]
theorem asF_wt (k : Nat) : ∀ (t : List UInt8) (out a : List Atr) (r : List UInt8), asF k t out = .ok (a, r) → wtA a + 5 * r.length ≤ wtA out + 5 * t.length := by
  induction k with
  | zero => intro t out a r h; simp only [asF, Except.ok.injEq, Prod.mk.injEq] at h; obtain ⟨rfl, rfl⟩ := h; omega
  | succ k ih =>
    intro t out a r h
    have l0 := wsX_len t
    unfold asF at h
    split at h
    · cases e1 : tiX (wsX t) with
      | error e => rw [e1] at h; cases h
      | ok nr =>
        obtain ⟨n, t1⟩ := nr
        rw [e1] at h
        simp only [] at h
        have l1 := (tiX_len e1).1
        cases e2 : vaX t1 with
        | error e => rw [e2] at h; cases h
        | ok vr =>
          obtain ⟨v, r'⟩ := vr
          rw [e2] at h
          simp only [] at h
          have l2 := vaX_wt e2
          split at h
          · cases h
          · have g := ih _ _ _ _ h
            rw [wtA_snoc] at g
            simp only [] at g
            omega
    · simp only [Except.ok.injEq, Prod.mk.injEq] at h; obtain ⟨rfl, rfl⟩ := h; omega
theorem wtL_snoc (l : List Nd) (d : Nd) : wtL (l ++ [d]) = wtL l + wtN d := by
  induction l with
  | nil => simp [wtL]
  | cons c l ih => simp only [List.cons_append, wtL, ih]; omega
theorem addT_wt (l : List Nd) (s : List UInt8) : wtL (addT l s) ≤ wtL l + 1 + s.length := by
  unfold addT
  split
  · omega
  · rcases List.eq_nil_or_concat l with rfl | ⟨o, d, rfl⟩
    · simp [pt, wtL, wtN, wtA]
    · rw [List.concat_eq_append]
      cases d with
      | mk n a y k =>
        cases n with
        | nil =>
          have e : pt (o ++ [.mk [] a y k]) (.mk [] [] s []) = o ++ [.mk [] a (y ++ s) k] := by unfold pt; simp [Nd.n, Nd.x]
          rw [e, wtL_snoc, wtL_snoc]
          simp only [wtN, List.length_append]; omega
        | cons m n =>
          have e : pt (o ++ [.mk (m :: n) a y k]) (.mk [] [] s []) = o ++ [.mk (m :: n) a y k] ++ [.mk [] [] s []] := by unfold pt; simp
          rw [e, wtL_snoc]
          simp only [wtN, wtA, wtL, List.map_nil, List.sum_nil, List.length_nil]; omega
theorem xm_wt (k : Nat) : (∀ (deep : Nat) (t : List UInt8) (d : Nd) (r : List UInt8), elF k deep t = .ok (d, r) → wtN d + 5 * r.length ≤ 5 * t.length) ∧
    (∀ (deep : Nat) (t : List UInt8) (out l : List Nd) (r : List UInt8), kiF k deep t out = .ok (l, r) → wtL l + 5 * r.length ≤ wtL out + 5 * t.length) := by
  induction k with
  | zero => exact ⟨fun _ _ _ _ h => by simp [elF] at h, fun _ _ _ _ _ h => by simp [kiF] at h⟩
  | succ k ih =>
    obtain ⟨ie, ik⟩ := ih
    refine ⟨fun deep t d r h => ?_, fun deep t out l r h => ?_⟩
    · rw [elF_eq] at h
      split at h
      · cases h
      · rename_i h0
        have p0 := pre_len (by simpa using h0 : pre [60] t = true)
        simp only [List.length_singleton] at p0
        cases e1 : tiX (t.drop 1) with
        | error e => rw [e1] at h; cases h
        | ok nt =>
          obtain ⟨n, t1⟩ := nt
          rw [e1] at h
          simp only [] at h
          have l1 := (tiX_len e1).1
          rw [List.length_drop] at l1
          split at h
          · cases h
          · cases e2 : atrX t1 with
            | error e => rw [e2] at h; cases h
            | ok at2 =>
              obtain ⟨a, t2⟩ := at2
              rw [e2] at h
              simp only [] at h
              have l2 := asF_wt _ _ _ _ _ e2
              simp only [wtA, List.map_nil, List.sum_nil] at l2
              unfold elR at h
              split at h
              · simp only [Except.ok.injEq, Prod.mk.injEq] at h
                obtain ⟨rfl, rfl⟩ := h
                simp only [wtN, wtL, List.length_nil, List.length_drop, wtA] at *
                omega
              · split at h
                · cases h
                · cases e3 : kiF k deep (t2.drop 1) [] with
                  | error e => rw [e3] at h; cases h
                  | ok lt =>
                    obtain ⟨l, t4⟩ := lt
                    rw [e3] at h
                    simp only [] at h
                    have l3 := ik _ _ _ _ _ e3
                    simp only [wtL, List.length_drop] at l3
                    cases e4 : tiX t4 with
                    | error e => rw [e4] at h; cases h
                    | ok mt =>
                      obtain ⟨m, t5⟩ := mt
                      rw [e4] at h
                      simp only [] at h
                      have l4 := (tiX_len e4).1
                      have l5 := wsX_len t5
                      split at h
                      · cases h
                      · split at h
                        · cases h
                        · simp only [Except.ok.injEq, Prod.mk.injEq] at h
                          obtain ⟨rfl, rfl⟩ := h
                          simp only [wtN, List.length_nil, List.length_drop, wtA] at *
                          omega
    · unfold kiF at h
      split at h
      · simp only [Except.ok.injEq, Prod.mk.injEq] at h
        obtain ⟨rfl, rfl⟩ := h
        rw [List.length_drop]; omega
      · split at h
        · cases e1 : toS sCdE (t.drop 9) with
          | none => rw [e1] at h; cases h
          | some vr =>
            obtain ⟨v, r0⟩ := vr
            rw [e1] at h
            simp only [] at h
            have l1 := toS_len2 e1 (by decide)
            rw [List.length_drop] at l1
            have l2 := ik _ _ _ _ _ h
            have l3 := addT_wt out v
            omega
        · cases e1 : asX t with
          | error e => rw [e1] at h; cases h
          | ok o =>
            rw [e1] at h
            cases o with
            | some u =>
              simp only [] at h
              have l1 := asX_len e1
              have l2 := ik _ _ _ _ _ h
              omega
            | none =>
              simp only [] at h
              split at h
              · cases e2 : elF k (deep + 1) t with
                | error e => rw [e2] at h; cases h
                | ok du =>
                  obtain ⟨d, r0⟩ := du
                  rw [e2] at h
                  simp only [] at h
                  have l2 := ie _ _ _ _ e2
                  have l3 := ik _ _ _ _ _ h
                  rw [wtL_snoc] at l3
                  omega
              · rename_i h4
                split at h
                · cases h
                · split at h
                  · cases h
                  · rename_i h6
                    obtain ⟨q1, q2⟩ := pl_len (by simpa using h4) h6
                    have l2 := ik _ _ _ _ _ h
                    have l3 := addT_wt out (Tk (t.takeWhile (· != 60))).1
                    have l4 := Tk_len (t.takeWhile (· != 60)).length (t.takeWhile (· != 60)) (Nat.le_refl _)
                    omega
theorem XmP_wt {s : List UInt8} {d : Nd} (h : XmP s = .ok d) : wtN d ≤ 5 * s.length := by
  unfold XmP at h
  cases e0 : miX s with
  | error e => rw [e0] at h; cases h
  | ok t =>
    rw [e0] at h
    simp only [] at h
    have l0 := miF_len _ _ _ e0
    cases e1 : elF (2 * t.length + 2) 1 t with
    | error e => rw [e1] at h; cases h
    | ok dt =>
      obtain ⟨d', t1⟩ := dt
      rw [e1] at h
      simp only [] at h
      have l1 := (xm_wt _).1 _ _ _ _ e1
      cases e2 : miX t1 with
      | error e => rw [e2] at h; cases h
      | ok t2 =>
        rw [e2] at h
        simp only [] at h
        split at h
        · simp only [Except.ok.injEq] at h; subst h; omega
        · cases h
end Go.Proofs.YtkacjnifhmgeiaaGreatDoor

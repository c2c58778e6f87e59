/- Documents: what is read weighs little; what Check lets by. · Documents: the law XmlTells (printed by gen_xtells.py). · A node that is handed in by itself: what the row's reading gives; its weight. -/
import Derived.Test.YtkacjnifhmgeiaaGreatDoorGrpP
import Derived.Test.YtkacjnifhmgeiaaGreatDoorGrpL
import Derived.Test.YtkacjnifhmgeiaaGreatDoorXmlI
import Derived.Test.YtkacjnifhmgeiaaGreatDoorXmlRn
import Derived.Test.YtkacjnifhmgeiaaGreatDoorXmlRo
import Derived.Test.YtkacjnifhmgeiaaGreatDoorXmlRq
import Derived.Test.YtkacjnifhmgeiaaGreatDoorXmlR
import Derived.Deep.CutRange
import Derived.Test.YtkacjnifhmgeiaaGreatDoorGrpQ
import Derived.WideShapes
namespace Go.Proofs.YtkacjnifhmgeiaaGreatDoor
open Go.RowKit

theorem deep_ge (l : List Nd) : ∀ f, deepL f l ≤ f → dpL l ≤ f := by
  induction l using Nd.ind with
  | h0 => intro f _; simp [dpL]
  | h1 n a x k l ik il =>
    intro f h
    simp only [deepL, dpL, deepN, dpN] at h ⊢
    have h2 := il f (by omega)
    by_cases hn : n = []
    · simp only [if_pos hn] at h ⊢; omega
    · simp only [if_neg hn] at h ⊢
      cases f with
      | zero => simp only [] at h; omega
      | succ f => simp only [] at h; have := ik f (by omega); omega
theorem ckX_right {d : Nd} (h : ckX d = 0) : d.n ≠ [] ∧ cxN false d = 0 ∧ dpN d ≤ 8 := by
  unfold ckX at h
  split at h
  · cases h
  · rename_i h1
    split at h
    · cases h
    · rename_i h2
      refine ⟨h2, h, ?_⟩
      have := deep_ge [d] 8 (by omega)
      simp only [dpL] at this; omega
theorem ckX_of {d : Nd} (h1 : d.n ≠ []) (h2 : cxN false d = 0) (h3 : dpN d ≤ 8) (h4 : cntN d ≤ 3000) : ckX d = 0 := by
  have e1 := deep_le [d] 8
  have e2 := many_le [d] 8
  simp only [dpL, cntL] at e1 e2
  unfold ckX
  rw [if_neg (by omega), if_neg h1, h2]
theorem vaX_wt {t v r : List UInt8} (h : vaX t = .ok (v, r)) : v.length + 5 * r.length + 5 ≤ 5 * t.length := by
  rw [vaX_eq] at h
  generalize (if pre [39] (wsX ((wsX t).drop 1)) = true then (39 : UInt8) else 34) = q at h
  have w1 := wsX_len t
  have w2 := wsX_len ((wsX t).drop 1)
  rw [List.length_drop] at w2
  split at h
  · cases h
  · rename_i h1
    have p1 := pre_len (by simpa using h1 : pre [61] (wsX t) = true)
    simp only [List.length_singleton] at p1
    split at h
    · cases h
    · cases h3 : toS [q] ((wsX ((wsX t).drop 1)).drop 1) with
      | none => rw [h3] at h; cases h
      | some vr =>
        obtain ⟨v0, r0⟩ := vr
        rw [h3] at h
        simp only [] at h
        have l3 := (toS_len2 h3 (by simp)).1
        rw [List.length_drop] at l3
        have tk := Tk_len v0.length v0 (Nat.le_refl _)
        split at h
        · cases h
        · split at h
          · simp only [Except.ok.injEq, Prod.mk.injEq] at h
            obtain ⟨rfl, rfl⟩ := h
            omega
          · cases h
theorem wtA_snoc (l : List Atr) (a : Atr) : wtA (l ++ [a]) = wtA l + (1 + a.1.length + a.2.length) := by simp [wtA]
theorem asF_wt (k : Nat) : ∀ (t : List UInt8) (out a : List Atr) (r : List UInt8), asF k t out = .ok (a, r) → wtA a + 5 * r.length ≤ wtA out + 5 * t.length := by
  induction k with
  | zero => intro t out a r h; simp only [asF, Except.ok.injEq, Prod.mk.injEq] at h; obtain ⟨rfl, rfl⟩ := h; omega
  | succ k ih =>
    intro t out a r h
    have l0 := wsX_len t
    unfold asF at h
    split at h
    · cases e1 : tiX (wsX t) with
      | error e => rw [e1] at h; cases h
      | ok nr =>
        obtain ⟨n, t1⟩ := nr
        rw [e1] at h
        simp only [] at h
        have l1 := (tiX_len e1).1
        cases e2 : vaX t1 with
        | error e => rw [e2] at h; cases h
        | ok vr =>
          obtain ⟨v, r'⟩ := vr
          rw [e2] at h
          simp only [] at h
          have l2 := vaX_wt e2
          split at h
          · cases h
          · have g := ih _ _ _ _ h
            rw [wtA_snoc] at g
            simp only [] at g
            omega
    · simp only [Except.ok.injEq, Prod.mk.injEq] at h; obtain ⟨rfl, rfl⟩ := h; omega
theorem wtL_snoc (l : List Nd) (d : Nd) : wtL (l ++ [d]) = wtL l + wtN d := by
  induction l with
  | nil => simp [wtL]
  | cons c l ih => simp only [List.cons_append, wtL, ih]; omega
theorem addT_wt (l : List Nd) (s : List UInt8) : wtL (addT l s) ≤ wtL l + 1 + s.length := by
  unfold addT
  split
  · omega
  · rcases List.eq_nil_or_concat l with rfl | ⟨o, d, rfl⟩
    · simp [pt, wtL, wtN, wtA]
    · rw [List.concat_eq_append]
      cases d with
      | mk n a y k =>
        cases n with
        | nil =>
          have e : pt (o ++ [.mk [] a y k]) (.mk [] [] s []) = o ++ [.mk [] a (y ++ s) k] := by unfold pt; simp [Nd.n, Nd.x]
          rw [e, wtL_snoc, wtL_snoc]
          simp only [wtN, List.length_append]; omega
        | cons m n =>
          have e : pt (o ++ [.mk (m :: n) a y k]) (.mk [] [] s []) = o ++ [.mk (m :: n) a y k] ++ [.mk [] [] s []] := by unfold pt; simp
          rw [e, wtL_snoc]
          simp only [wtN, wtA, wtL, List.map_nil, List.sum_nil, List.length_nil]; omega
theorem xm_wt (k : Nat) : (∀ (deep : Nat) (t : List UInt8) (d : Nd) (r : List UInt8), elF k deep t = .ok (d, r) → wtN d + 5 * r.length ≤ 5 * t.length) ∧
    (∀ (deep : Nat) (t : List UInt8) (out l : List Nd) (r : List UInt8), kiF k deep t out = .ok (l, r) → wtL l + 5 * r.length ≤ wtL out + 5 * t.length) := by
  induction k with
  | zero => exact ⟨fun _ _ _ _ h => by simp [elF] at h, fun _ _ _ _ _ h => by simp [kiF] at h⟩
  | succ k ih =>
    obtain ⟨ie, ik⟩ := ih
    refine ⟨fun deep t d r h => ?_, fun deep t out l r h => ?_⟩
    · rw [elF_eq] at h
      split at h
      · cases h
      · rename_i h0
        have p0 := pre_len (by simpa using h0 : pre [60] t = true)
        simp only [List.length_singleton] at p0
        cases e1 : tiX (t.drop 1) with
        | error e => rw [e1] at h; cases h
        | ok nt =>
          obtain ⟨n, t1⟩ := nt
          rw [e1] at h
          simp only [] at h
          have l1 := (tiX_len e1).1
          rw [List.length_drop] at l1
          split at h
          · cases h
          · cases e2 : atrX t1 with
            | error e => rw [e2] at h; cases h
            | ok at2 =>
              obtain ⟨a, t2⟩ := at2
              rw [e2] at h
              simp only [] at h
              have l2 := asF_wt _ _ _ _ _ e2
              simp only [wtA, List.map_nil, List.sum_nil] at l2
              unfold elR at h
              split at h
              · simp only [Except.ok.injEq, Prod.mk.injEq] at h
                obtain ⟨rfl, rfl⟩ := h
                simp only [wtN, wtL, List.length_nil, List.length_drop, wtA] at *
                omega
              · split at h
                · cases h
                · cases e3 : kiF k deep (t2.drop 1) [] with
                  | error e => rw [e3] at h; cases h
                  | ok lt =>
                    obtain ⟨l, t4⟩ := lt
                    rw [e3] at h
                    simp only [] at h
                    have l3 := ik _ _ _ _ _ e3
                    simp only [wtL, List.length_drop] at l3
                    cases e4 : tiX t4 with
                    | error e => rw [e4] at h; cases h
                    | ok mt =>
                      obtain ⟨m, t5⟩ := mt
                      rw [e4] at h
                      simp only [] at h
                      have l4 := (tiX_len e4).1
                      have l5 := wsX_len t5
                      split at h
                      · cases h
                      · split at h
                        · cases h
                        · simp only [Except.ok.injEq, Prod.mk.injEq] at h
                          obtain ⟨rfl, rfl⟩ := h
                          simp only [wtN, List.length_nil, List.length_drop, wtA] at *
                          omega
    · unfold kiF at h
      split at h
      · simp only [Except.ok.injEq, Prod.mk.injEq] at h
        obtain ⟨rfl, rfl⟩ := h
        rw [List.length_drop]; omega
      · split at h
        · cases e1 : toS sCdE (t.drop 9) with
          | none => rw [e1] at h; cases h
          | some vr =>
            obtain ⟨v, r0⟩ := vr
            rw [e1] at h
            simp only [] at h
            have l1 := toS_len2 e1 (by decide)
            rw [List.length_drop] at l1
            have l2 := ik _ _ _ _ _ h
            have l3 := addT_wt out v
            omega
        · cases e1 : asX t with
          | error e => rw [e1] at h; cases h
          | ok o =>
            rw [e1] at h
            cases o with
            | some u =>
              simp only [] at h
              have l1 := asX_len e1
              have l2 := ik _ _ _ _ _ h
              omega
            | none =>
              simp only [] at h
              split at h
              · cases e2 : elF k (deep + 1) t with
                | error e => rw [e2] at h; cases h
                | ok du =>
                  obtain ⟨d, r0⟩ := du
                  rw [e2] at h
                  simp only [] at h
                  have l2 := ie _ _ _ _ e2
                  have l3 := ik _ _ _ _ _ h
                  rw [wtL_snoc] at l3
                  omega
              · rename_i h4
                split at h
                · cases h
                · split at h
                  · cases h
                  · rename_i h6
                    obtain ⟨q1, q2⟩ := pl_len (by simpa using h4) h6
                    have l2 := ik _ _ _ _ _ h
                    have l3 := addT_wt out (Tk (t.takeWhile (· != 60))).1
                    have l4 := Tk_len (t.takeWhile (· != 60)).length (t.takeWhile (· != 60)) (Nat.le_refl _)
                    omega
theorem XmP_wt {s : List UInt8} {d : Nd} (h : XmP s = .ok d) : wtN d ≤ 5 * s.length := by
  unfold XmP at h
  cases e0 : miX s with
  | error e => rw [e0] at h; cases h
  | ok t =>
    rw [e0] at h
    simp only [] at h
    have l0 := miF_len _ _ _ e0
    cases e1 : elF (2 * t.length + 2) 1 t with
    | error e => rw [e1] at h; cases h
    | ok dt =>
      obtain ⟨d', t1⟩ := dt
      rw [e1] at h
      simp only [] at h
      have l1 := (xm_wt _).1 _ _ _ _ e1
      cases e2 : miX t1 with
      | error e => rw [e2] at h; cases h
      | ok t2 =>
        rw [e2] at h
        simp only [] at h
        split at h
        · simp only [Except.ok.injEq] at h; subst h; omega
        · cases h
end Go.Proofs.YtkacjnifhmgeiaaGreatDoor

namespace Go.Proofs.YtkacjnifhmgeiaaGreatDoor
open Go.RowKit

/-- What is read, said of both ways. -/
def rxN (s : List UInt8) : Nd := match rdX s with | .error _ => .mk [] [] [] [] | .ok m => m
def rxE (s : List UInt8) : Int := match rdX s with | .error n => n | .ok _ => 0
def RxU (w0 : World) (m : Nd) (E : Int) (e : Ending) (w' : World) : Prop :=
  Bl w0 w' ∧ ∃ va vk, e = .returned (.tuple #[.agg #[.string ⟨m.n.toArray⟩, va, .string ⟨m.x.toArray⟩, vk], .int .i64 E]) ∧ ∃ P, AtP w' P va m.a ∧ NdS w' P vk m.k ∧ ∀ k, P k → w0.heap.size ≤ k ∧ k < w'.heap.size
theorem rx_er {s : List UInt8} {n : Int} (h : rdX s = .error n) : rxN s = .mk [] [] [] [] ∧ rxE s = n := by unfold rxN rxE; rw [h]; exact ⟨rfl, rfl⟩
theorem rx_ok {s : List UInt8} {m : Nd} (h : rdX s = .ok m) : rxN s = m ∧ rxE s = 0 := by unfold rxN rxE; rw [h]; exact ⟨rfl, rfl⟩
theorem rxU_of {w0 w' : World} {s : List UInt8} {e : Ending} (h : AllEnd w0 (rdX s) e w') : RxU w0 (rxN s) (rxE s) e w' := by
  obtain ⟨hb, h⟩ := h
  refine ⟨hb, ?_⟩
  cases hr : rdX s with
  | error n =>
    rw [hr] at h
    rw [(rx_er hr).1, (rx_er hr).2]
    exact ⟨_, _, h, fun _ => False, AtP.nil _ _, NdS.nil _ _, fun k hk => hk.elim⟩
  | ok m =>
    rw [hr] at h
    rw [(rx_ok hr).1, (rx_ok hr).2]
    exact h
theorem readU_c (s : List UInt8) (w : World) (hs : s.length ≤ 4611686018427387904) (hE : ES w) (hM : ML w) : Calls Tryz.prog 6 #[.string ⟨s.toArray⟩] w (RxU w (rxN s) (rxE s)) :=
  (readX_c s w hs hE hM).mono fun _ _ h => rxU_of h
theorem xmlOfU_c (s : List UInt8) (w : World) (hs : s.length ≤ 3000) : Calls Tryz.prog 10 #[.string ⟨s.toArray⟩] w (RxU w (rxN s) (rxE s)) :=
  (xmlOf_c s w (by omega)).mono fun _ _ h => rxU_of (by unfold rdX; rw [if_neg (by omega)]; exact h)
theorem rxN_wt (s : List UInt8) : wtL [rxN s] ≤ 1099511627770 := by
  cases hr : rdX s with
  | error n => rw [(rx_er hr).1]; decide
  | ok m =>
    rw [(rx_ok hr).1]
    unfold rdX at hr
    split at hr
    · cases hr
    · have := XmP_wt hr
      simp only [wtL]; omega
set_option maxRecDepth 100000 in
set_option maxHeartbeats 16000000 in
theorem xmlTells_c (s : List UInt8) (hs : s.length ≤ 1048576) (d : Nd) (va vk : Value) (P : Nat → Prop) (w : World) (hN : wtN d ≤ 9000000) (hA : AtP w P va d.a) (hK : NdS w P vk d.k) (hE : ES w) (hM : ML w) :
    Calls Tryz.prog 3 #[.string ⟨s.toArray⟩, .agg #[.string ⟨d.n.toArray⟩, va, .string ⟨d.x.toArray⟩, vk]] w fun e w' => e = .returned (.bool true) ∧ Bl w w' := by
  obtain ⟨ao, ac, rfl, -⟩ := id hA
  obtain ⟨ko, kc, rfl, -⟩ := id hK
  have hb0 := (Bl.refl w).alloc (.cells #[.string ⟨d.n.toArray⟩, .slice ao d.a.length ac, .string ⟨d.x.toArray⟩, .slice ko d.k.length kc] 25)
  have hN0 := nb_par w d.n d.x ao d.a.length ac ko d.k.length kc
  have hAH := Lib.hid hA
  have hKH := Lib.hid hK
  have PC := Lib.hid (fun W (hb : Bl w W) => printX_c d (.slice ao d.a.length ac) (.slice ko d.k.length kc) P W hN (hAH.out.still (Still.of_bl hb)) (hKH.out.of_bl hb))
  have CR := Lib.hid (fun W (hb : Bl w W) => checkXmlR_c d (.slice ao d.a.length ac) (.slice ko d.k.length kc) P W hN (hAH.out.still (Still.of_bl hb)) (hKH.out.of_bl hb))
  have CC := Lib.hid (fun W (hb : Bl w W) => checkX_c d (.slice ao d.a.length ac) (.slice ko d.k.length kc) P W hN (hAH.out.still (Still.of_bl hb)) (hKH.out.of_bl hb))
  have XB := Lib.hid (fun W (hb : Bl w W) => xmlBytesR_c 9000001 d (.slice ao d.a.length ac) (.slice ko d.k.length kc) P W (by omega) (by omega) (hAH.out.still (Still.of_bl hb)) (hKH.out.of_bl hb))
  have RS := Lib.hid (fun W he hm => readU_c s W (by omega) he hm)
  have XS := Lib.hid (fun (h : s.length ≤ 3000) W => xmlOfU_c s W h)
  have hwm := rxN_wt s
  obtain ⟨m, hm9⟩ : ∃ m, m = rxN s := ⟨_, rfl⟩
  obtain ⟨E, hE9⟩ : ∃ E, E = rxE s := ⟨_, rfl⟩
  have HLG := Lib.hid (fun (h : 3000 < s.length) => show m = .mk [] [] [] [] ∧ E = 2 by rw [hm9, hE9]; exact rx_er (by unfold rdX; rw [if_pos h]))
  rw [← hm9] at RS XS hwm
  rw [← hE9] at RS XS
  clear hm9 hE9 hA hK
  obtain ⟨qv, hqv⟩ : ∃ q, q = ckX d := ⟨_, rfl⟩
  rw [← hqv] at CR CC
  have HPR := Lib.hid (show prX d = if qv = 0 then (wrX d, 0) else ([], qv) by rw [hqv]; rfl)
  obtain ⟨y, hy⟩ : ∃ y, y = wrX d := ⟨_, rfl⟩
  rw [← hy] at HPR XB
  obtain ⟨pb, hpb⟩ : ∃ p, p = prX d := ⟨_, rfl⟩
  rw [← hpb] at HPR PC
  clear hqv hy hpb
  go_enter Tryz.func3, Tryz.ntmps3
  go_upto_region 3 with (first | (go_at_call 6; (with_reducible refine (RS.out _ (hE.of_bl hb0) (hM.of_bl hb0)).mono ?_); rintro e w1 ⟨hb1, va1, vk1, rfl, P1, hA1, hK1, hP1⟩; obtain ⟨a1, c1, rfl, -⟩ := id hA1; obtain ⟨k1, e1, rfl, -⟩ := id hK1; have hb01 := hb0.trans hb1; have hN1 := hN0.of_bl hb1; have hb1a := hb01.alloc (.cells #[.string ⟨m.n.toArray⟩, .slice a1 m.a.length c1, .string ⟨m.x.toArray⟩, .slice k1 m.k.length e1] 25); have hN1a := hN1.of_bl ((Bl.refl w1).alloc (.cells #[.string ⟨m.n.toArray⟩, .slice a1 m.a.length c1, .string ⟨m.x.toArray⟩, .slice k1 m.k.length e1] 25)); have hS1 := nb_par w1 m.n m.x a1 m.a.length c1 k1 m.k.length e1; obtain ⟨m0, m1, m2, m3, -⟩ := hN1a.cells; obtain ⟨n0, n1, n2, n3, -⟩ := hN1.cells; have hz1 := hN1.lt; have hne1 : w.heap.size ≠ w1.heap.size := (by omega); have hs1 := alloc_size w1 (.cells #[.string ⟨m.n.toArray⟩, .slice a1 m.a.length c1, .string ⟨m.x.toArray⟩, .slice k1 m.k.length e1] 25)) | (go_at_call 7; (with_reducible refine (PC.out _ hb1a).mono ?_); rintro e w2 ⟨rfl, hb2⟩))
  clear m0 m1 m2 m3 n0 n1 n2 n3
  have hb02 := hb1a.trans hb2
  have hN2 := hN1a.of_bl hb2
  have hz2 := hN2.lt
  go_cut [9, 10] from 14 (fun t9 t10 wx => t9 = .int .i64 (tooL s) ∧ t10 = .int .i64 qv ∧ Bl w2 wx)
  case first =>
    obtain ⟨m0, m1, m2, m3, -⟩ := (hN2.of_bl (Bl.refl _).drew).cells
    obtain ⟨n0, n1, n2, n3, -⟩ := hN2.cells
    go_region_with (first | (go_at_call 8; (with_reducible refine (tooLong_c s _).mono ?_); rintro e w3 ⟨rfl, rfl⟩) | (go_at_call 9; (with_reducible refine (CR.out _ (hb02.trans (Bl.refl _).drew)).mono ?_); rintro e w3 ⟨rfl, hb3⟩))
    all_goals
      go_wp2_with fail
      go_meet
      case rel => exact ⟨rfl, rfl, (Bl.refl _).drew.trans hb3⟩
  case rest =>
    obtain ⟨rfl, rfl, hb3⟩ := hcut
    obtain ⟨w3, hw3⟩ : ∃ w3 : World, w3 = wc := ⟨_, rfl⟩
    subst hw3
    have hb03 := hb02.trans hb3
    have hN3 := (hN2.of_bl hb3).of_bl ((Bl.refl w3).alloc (.cells #[.string ⟨#[]⟩, .slice none 0 0, .string ⟨#[]⟩, .slice none 0 0] 25))
    have hS3 := ((hS1.of_bl hb2).of_bl hb3).of_bl ((Bl.refl w3).alloc (.cells #[.string ⟨#[]⟩, .slice none 0 0, .string ⟨#[]⟩, .slice none 0 0] 25))
    have hb23 := (hb2.trans hb3).alloc (.cells #[.string ⟨#[]⟩, .slice none 0 0, .string ⟨#[]⟩, .slice none 0 0] 25)
    have hA3 := (hA1.still (Still.of_bl ((Bl.refl w1).alloc (.cells #[.string ⟨m.n.toArray⟩, .slice a1 m.a.length c1, .string ⟨m.x.toArray⟩, .slice k1 m.k.length e1] 25)))).still (Still.of_bl hb23)
    have hK3 := (hK1.of_bl ((Bl.refl w1).alloc (.cells #[.string ⟨m.n.toArray⟩, .slice a1 m.a.length c1, .string ⟨m.x.toArray⟩, .slice k1 m.k.length e1] 25))).of_bl hb23
    have hQ3 := nb_new w3 []
    have hs23 := (hb2.trans hb3).size
    have hb3a := hb03.alloc (.cells #[.string ⟨#[]⟩, .slice none 0 0, .string ⟨#[]⟩, .slice none 0 0] 25)
    have n5 : w.heap.size < w3.heap.size := by omega
    have n6 : w1.heap.size < w3.heap.size := by omega
    by_cases hlen : s.length ≤ 3000
    · rw [show tooL s = 0 by unfold tooL; rw [if_neg (by omega)]]
      go_upto_region 7 with (first | (go_at_call 10; (with_reducible refine (XS.out hlen _).mono ?_); rintro e w4 ⟨hb4, va4, vk4, rfl, P4, hA4, hK4, hP4⟩; obtain ⟨a4, c4, rfl, -⟩ := id hA4; obtain ⟨k4, e4, rfl, -⟩ := id hK4; have hQ4a := hQ3.of_bl hb4; obtain ⟨i0, i1, i2, i3, j0, j1, j2, j3⟩ := hQ4a.cells))
      have hq31 := alloc_size w3 (.cells #[.string ⟨#[]⟩, .slice none 0 0, .string ⟨#[]⟩, .slice none 0 0] 25)
      have hs4 := Below.size hb4
      have hN5 : Nb ((((w4.setCell ⟨w3.heap.size, 0, none⟩ (.string ⟨m.n.toArray⟩)).setCell ⟨w3.heap.size, 1, none⟩ (.slice a4 m.a.length c4)).setCell ⟨w3.heap.size, 2, none⟩ (.string ⟨m.x.toArray⟩)).setCell ⟨w3.heap.size, 3, none⟩ (.slice k4 m.k.length e4)) w.heap.size d.n (.slice ao d.a.length ac) d.x (.slice ko d.k.length kc) := ((((hN3.of_bl hb4).far (by omega)).far (by omega)).far (by omega)).far (by omega)
      have hS5 : Nb ((((w4.setCell ⟨w3.heap.size, 0, none⟩ (.string ⟨m.n.toArray⟩)).setCell ⟨w3.heap.size, 1, none⟩ (.slice a4 m.a.length c4)).setCell ⟨w3.heap.size, 2, none⟩ (.string ⟨m.x.toArray⟩)).setCell ⟨w3.heap.size, 3, none⟩ (.slice k4 m.k.length e4)) w1.heap.size m.n (.slice a1 m.a.length c1) m.x (.slice k1 m.k.length e1) := ((((hS3.of_bl hb4).far (by omega)).far (by omega)).far (by omega)).far (by omega)
      have hQ5 : Nb ((((w4.setCell ⟨w3.heap.size, 0, none⟩ (.string ⟨m.n.toArray⟩)).setCell ⟨w3.heap.size, 1, none⟩ (.slice a4 m.a.length c4)).setCell ⟨w3.heap.size, 2, none⟩ (.string ⟨m.x.toArray⟩)).setCell ⟨w3.heap.size, 3, none⟩ (.slice k4 m.k.length e4)) w3.heap.size m.n (.slice a4 m.a.length c4) m.x (.slice k4 m.k.length e4) := fin4_nb hQ4a
      have hb05 : Bl w ((((w4.setCell ⟨w3.heap.size, 0, none⟩ (.string ⟨m.n.toArray⟩)).setCell ⟨w3.heap.size, 1, none⟩ (.slice a4 m.a.length c4)).setCell ⟨w3.heap.size, 2, none⟩ (.string ⟨m.x.toArray⟩)).setCell ⟨w3.heap.size, 3, none⟩ (.slice k4 m.k.length e4)) := by
        have hb04 := hb3a.trans hb4
        have h53 : w.heap.size ≤ w3.heap.size := by omega
        exact Below.setCell (Below.setCell (Below.setCell (Below.setCell hb04 h53 _) h53 _) h53 _) h53 _
      have hA5 : AtP ((((w4.setCell ⟨w3.heap.size, 0, none⟩ (.string ⟨m.n.toArray⟩)).setCell ⟨w3.heap.size, 1, none⟩ (.slice a4 m.a.length c4)).setCell ⟨w3.heap.size, 2, none⟩ (.string ⟨m.x.toArray⟩)).setCell ⟨w3.heap.size, 3, none⟩ (.slice k4 m.k.length e4)) P1 (.slice a1 m.a.length c1) m.a := (hA3.still (Still.of_bl hb4)).still (fin4_still (fun h => by have := (hP1 _ h).2; omega))
      have hK5 : NdS ((((w4.setCell ⟨w3.heap.size, 0, none⟩ (.string ⟨m.n.toArray⟩)).setCell ⟨w3.heap.size, 1, none⟩ (.slice a4 m.a.length c4)).setCell ⟨w3.heap.size, 2, none⟩ (.string ⟨m.x.toArray⟩)).setCell ⟨w3.heap.size, 3, none⟩ (.slice k4 m.k.length e4)) P1 (.slice k1 m.k.length e1) m.k := (hK3.of_bl hb4).still (fin4_still (fun h => by have := (hP1 _ h).2; omega))
      have hA6 : AtP ((((w4.setCell ⟨w3.heap.size, 0, none⟩ (.string ⟨m.n.toArray⟩)).setCell ⟨w3.heap.size, 1, none⟩ (.slice a4 m.a.length c4)).setCell ⟨w3.heap.size, 2, none⟩ (.string ⟨m.x.toArray⟩)).setCell ⟨w3.heap.size, 3, none⟩ (.slice k4 m.k.length e4)) P4 (.slice a4 m.a.length c4) m.a := hA4.still (fin4_still (fun h => by have := (hP4 _ h).1; omega))
      have hK6 : NdS ((((w4.setCell ⟨w3.heap.size, 0, none⟩ (.string ⟨m.n.toArray⟩)).setCell ⟨w3.heap.size, 1, none⟩ (.slice a4 m.a.length c4)).setCell ⟨w3.heap.size, 2, none⟩ (.string ⟨m.x.toArray⟩)).setCell ⟨w3.heap.size, 3, none⟩ (.slice k4 m.k.length e4)) P4 (.slice k4 m.k.length e4) m.k := hK4.still (fin4_still (fun h => by have := (hP4 _ h).1; omega))
      obtain ⟨w5, hw5⟩ : ∃ w5, w5 = (((w4.setCell ⟨w3.heap.size, 0, none⟩ (.string ⟨m.n.toArray⟩)).setCell ⟨w3.heap.size, 1, none⟩ (.slice a4 m.a.length c4)).setCell ⟨w3.heap.size, 2, none⟩ (.string ⟨m.x.toArray⟩)).setCell ⟨w3.heap.size, 3, none⟩ (.slice k4 m.k.length e4) := ⟨_, rfl⟩
      rw [← hw5] at hN5 hS5 hQ5 hb05 hA5 hK5 hA6 hK6
      rw [← hw5]
      clear hw5 i0 i1 i2 i3 j0 j1 j2 j3
      by_cases hq : qv = 0
      · have e9 := HPR.out
        rw [if_pos hq] at e9
        subst hq e9
        clear HPR
        obtain ⟨m0, m1, m2, m3, -⟩ := hN5.cells
        go_wp2_with (first | (go_at_call 11; (with_reducible refine (XB.out _ hb05).mono ?_); rintro e w6 ⟨rfl, hb6⟩; have hN6 := hN5.of_bl hb6; have hS6 := hS5.of_bl hb6; have hQ6 := hQ5.of_bl hb6; have hb06 := hb05.trans hb6; clear m0 m1 m2 m3; obtain ⟨m0, m1, m2, m3, -⟩ := hN6.cells) | (go_at_call 12; (with_reducible refine (xmlBegun_c _ (hE.of_bl hb06) (hM.of_bl hb06)).mono ?_); rintro e w7 ⟨rfl, hb7⟩; have hN7 := hN6.of_bl hb7; have hS7 := hS6.of_bl hb7; have hQ7 := hQ6.of_bl hb7; have hb07 := hb06.trans hb7; clear m0 m1 m2 m3; obtain ⟨m0, m1, m2, m3, -⟩ := hN7.cells) | (go_at_call 13; (with_reducible refine (CC.out _ hb07).mono ?_); rintro e w8 ⟨rfl, hb8⟩; have hN8 := hN7.of_bl hb8; have hS8 := hS7.of_bl hb8; have hQ8 := hQ7.of_bl hb8; have hb08 := hb07.trans hb8; have hb58 := (hb6.trans hb7).trans hb8; have hS9 := hS8.of_bl ((Bl.refl w8).alloc (.cells #[.string ⟨m.n.toArray⟩, .slice a1 m.a.length c1, .string ⟨m.x.toArray⟩, .slice k1 m.k.length e1] 25)); have hQ9 := hQ8.of_bl ((Bl.refl w8).alloc (.cells #[.string ⟨m.n.toArray⟩, .slice a1 m.a.length c1, .string ⟨m.x.toArray⟩, .slice k1 m.k.length e1] 25)); obtain ⟨r0, r1, r2, r3, -⟩ := hS8.cells; obtain ⟨t0, t1, t2, t3, -⟩ := hQ9.cells; obtain ⟨o0, o1, o2, o3, -⟩ := hQ8.cells) | (go_at_call 14; (refine (sameOne_c m m _ _ _ _ _ hwm rfl ((nds_new (hA5.still (Still.of_bl hb58)) (hK5.of_bl hb58)).of_bl ((Bl.refl _).alloc (.cells #[.string ⟨m.n.toArray⟩, .slice a4 m.a.length c4, .string ⟨m.x.toArray⟩, .slice k4 m.k.length e4] 25))) (nds_new2 (o := (.cells #[.string ⟨m.n.toArray⟩, .slice a1 m.a.length c1, .string ⟨m.x.toArray⟩, .slice k1 m.k.length e1] 25)) (hA6.still (Still.of_bl hb58)) (hK6.of_bl hb58))).mono ?_); rintro e w9 ⟨rfl, hq9⟩; have hb09 := ((hb08.alloc (.cells #[.string ⟨m.n.toArray⟩, .slice a1 m.a.length c1, .string ⟨m.x.toArray⟩, .slice k1 m.k.length e1] 25)).alloc (.cells #[.string ⟨m.n.toArray⟩, .slice a4 m.a.length c4, .string ⟨m.x.toArray⟩, .slice k4 m.k.length e4] 25)).trans hq9.bl))
        go_ret
        exact ⟨rfl, hb09⟩
      · have e9 := HPR.out
        rw [if_neg hq] at e9
        subst e9
        have hq1 : (qv == 0) = false := by simpa using hq
        have hq2 : (qv != 0) = true := by simpa using hq
        clear HPR hq
        obtain ⟨m0, m1, m2, m3, -⟩ := hN5.cells
        go_wp2_with (first | (go_at_call 12; (with_reducible refine (xmlBegun_c _ (hE.of_bl hb05) (hM.of_bl hb05)).mono ?_); rintro e w7 ⟨rfl, hb7⟩; have hN7 := hN5.of_bl hb7; have hS7 := hS5.of_bl hb7; have hQ7 := hQ5.of_bl hb7; have hb07 := hb05.trans hb7; clear m0 m1 m2 m3; obtain ⟨m0, m1, m2, m3, -⟩ := hN7.cells) | (go_at_call 13; (with_reducible refine (CC.out _ hb07).mono ?_); rintro e w8 ⟨rfl, hb8⟩; have hN8 := hN7.of_bl hb8; have hS8 := hS7.of_bl hb8; have hQ8 := hQ7.of_bl hb8; have hb08 := hb07.trans hb8; have hb58 := hb7.trans hb8; have hS9 := hS8.of_bl ((Bl.refl w8).alloc (.cells #[.string ⟨m.n.toArray⟩, .slice a1 m.a.length c1, .string ⟨m.x.toArray⟩, .slice k1 m.k.length e1] 25)); have hQ9 := hQ8.of_bl ((Bl.refl w8).alloc (.cells #[.string ⟨m.n.toArray⟩, .slice a1 m.a.length c1, .string ⟨m.x.toArray⟩, .slice k1 m.k.length e1] 25)); obtain ⟨r0, r1, r2, r3, -⟩ := hS8.cells; obtain ⟨t0, t1, t2, t3, -⟩ := hQ9.cells; obtain ⟨o0, o1, o2, o3, -⟩ := hQ8.cells) | (go_at_call 14; (refine (sameOne_c m m _ _ _ _ _ hwm rfl ((nds_new (hA5.still (Still.of_bl hb58)) (hK5.of_bl hb58)).of_bl ((Bl.refl _).alloc (.cells #[.string ⟨m.n.toArray⟩, .slice a4 m.a.length c4, .string ⟨m.x.toArray⟩, .slice k4 m.k.length e4] 25))) (nds_new2 (o := (.cells #[.string ⟨m.n.toArray⟩, .slice a1 m.a.length c1, .string ⟨m.x.toArray⟩, .slice k1 m.k.length e1] 25)) (hA6.still (Still.of_bl hb58)) (hK6.of_bl hb58))).mono ?_); rintro e w9 ⟨rfl, hq9⟩; have hb09 := ((hb08.alloc (.cells #[.string ⟨m.n.toArray⟩, .slice a1 m.a.length c1, .string ⟨m.x.toArray⟩, .slice k1 m.k.length e1] 25)).alloc (.cells #[.string ⟨m.n.toArray⟩, .slice a4 m.a.length c4, .string ⟨m.x.toArray⟩, .slice k4 m.k.length e4] 25)).trans hq9.bl))
        go_ret
        exact ⟨rfl, hb09⟩
    · obtain ⟨rfl, rfl⟩ := HLG.out (by omega)
      rw [show tooL s = 2 by unfold tooL; rw [if_pos (by omega)]]
      have hN5 := hN3
      have hS5 := hS3
      have hQ5 := hQ3
      have hb05 := hb3a
      have hA5 := hA3
      have hK5 := hK3
      have hA6 := AtP.nil (w3.alloc (.cells #[.string ⟨#[]⟩, .slice none 0 0, .string ⟨#[]⟩, .slice none 0 0] 25)) (fun _ => False)
      have hK6 := NdS.nil (w3.alloc (.cells #[.string ⟨#[]⟩, .slice none 0 0, .string ⟨#[]⟩, .slice none 0 0] 25)) (fun _ => False)
      obtain ⟨w5, hw5⟩ : ∃ w5, w5 = w3.alloc (.cells #[.string ⟨#[]⟩, .slice none 0 0, .string ⟨#[]⟩, .slice none 0 0] 25) := ⟨_, rfl⟩
      go_upto_region 7 with fail
      rw [← hw5] at hN5 hS5 hQ5 hb05 hA5 hK5 hA6 hK6
      rw [← hw5]
      clear hw5
      by_cases hq : qv = 0
      · have e9 := HPR.out
        rw [if_pos hq] at e9
        subst hq e9
        clear HPR
        obtain ⟨m0, m1, m2, m3, -⟩ := hN5.cells
        go_wp2_with (first | (go_at_call 11; (with_reducible refine (XB.out _ hb05).mono ?_); rintro e w6 ⟨rfl, hb6⟩; have hN6 := hN5.of_bl hb6; have hS6 := hS5.of_bl hb6; have hQ6 := hQ5.of_bl hb6; have hb06 := hb05.trans hb6; clear m0 m1 m2 m3; obtain ⟨m0, m1, m2, m3, -⟩ := hN6.cells) | (go_at_call 12; (with_reducible refine (xmlBegun_c _ (hE.of_bl hb06) (hM.of_bl hb06)).mono ?_); rintro e w7 ⟨rfl, hb7⟩; have hN7 := hN6.of_bl hb7; have hS7 := hS6.of_bl hb7; have hQ7 := hQ6.of_bl hb7; have hb07 := hb06.trans hb7; clear m0 m1 m2 m3; obtain ⟨m0, m1, m2, m3, -⟩ := hN7.cells) | (go_at_call 13; (with_reducible refine (CC.out _ hb07).mono ?_); rintro e w8 ⟨rfl, hb8⟩; have hN8 := hN7.of_bl hb8; have hS8 := hS7.of_bl hb8; have hQ8 := hQ7.of_bl hb8; have hb08 := hb07.trans hb8; have hb58 := (hb6.trans hb7).trans hb8; have hS9 := hS8.of_bl ((Bl.refl w8).alloc (.cells #[.string ⟨(Nd.mk [] [] [] []).n.toArray⟩, .slice a1 (Nd.mk [] [] [] []).a.length c1, .string ⟨(Nd.mk [] [] [] []).x.toArray⟩, .slice k1 (Nd.mk [] [] [] []).k.length e1] 25)); have hQ9 := hQ8.of_bl ((Bl.refl w8).alloc (.cells #[.string ⟨(Nd.mk [] [] [] []).n.toArray⟩, .slice a1 (Nd.mk [] [] [] []).a.length c1, .string ⟨(Nd.mk [] [] [] []).x.toArray⟩, .slice k1 (Nd.mk [] [] [] []).k.length e1] 25)); obtain ⟨r0, r1, r2, r3, -⟩ := hS8.cells; obtain ⟨t0, t1, t2, t3, -⟩ := hQ9.cells; obtain ⟨o0, o1, o2, o3, -⟩ := hQ8.cells) | (go_at_call 14; (refine (sameOne_c (.mk [] [] [] []) (.mk [] [] [] []) _ _ _ _ _ hwm rfl ((nds_new (hA5.still (Still.of_bl hb58)) (hK5.of_bl hb58)).of_bl ((Bl.refl _).alloc (.cells #[.string ⟨#[]⟩, .slice none 0 0, .string ⟨#[]⟩, .slice none 0 0] 25))) (nds_new2 (o := (.cells #[.string ⟨(Nd.mk [] [] [] []).n.toArray⟩, .slice a1 (Nd.mk [] [] [] []).a.length c1, .string ⟨(Nd.mk [] [] [] []).x.toArray⟩, .slice k1 (Nd.mk [] [] [] []).k.length e1] 25)) (hA6.still (Still.of_bl hb58)) (hK6.of_bl hb58))).mono ?_); rintro e w9 ⟨rfl, hq9⟩; have hb09 := ((hb08.alloc (.cells #[.string ⟨(Nd.mk [] [] [] []).n.toArray⟩, .slice a1 (Nd.mk [] [] [] []).a.length c1, .string ⟨(Nd.mk [] [] [] []).x.toArray⟩, .slice k1 (Nd.mk [] [] [] []).k.length e1] 25)).alloc (.cells #[.string ⟨#[]⟩, .slice none 0 0, .string ⟨#[]⟩, .slice none 0 0] 25)).trans hq9.bl))
        go_ret
        exact ⟨rfl, hb09⟩
      · have e9 := HPR.out
        rw [if_neg hq] at e9
        subst e9
        have hq1 : (qv == 0) = false := by simpa using hq
        have hq2 : (qv != 0) = true := by simpa using hq
        clear HPR hq
        obtain ⟨m0, m1, m2, m3, -⟩ := hN5.cells
        go_wp2_with (first | (go_at_call 12; (with_reducible refine (xmlBegun_c _ (hE.of_bl hb05) (hM.of_bl hb05)).mono ?_); rintro e w7 ⟨rfl, hb7⟩; have hN7 := hN5.of_bl hb7; have hS7 := hS5.of_bl hb7; have hQ7 := hQ5.of_bl hb7; have hb07 := hb05.trans hb7; clear m0 m1 m2 m3; obtain ⟨m0, m1, m2, m3, -⟩ := hN7.cells) | (go_at_call 13; (with_reducible refine (CC.out _ hb07).mono ?_); rintro e w8 ⟨rfl, hb8⟩; have hN8 := hN7.of_bl hb8; have hS8 := hS7.of_bl hb8; have hQ8 := hQ7.of_bl hb8; have hb08 := hb07.trans hb8; have hb58 := hb7.trans hb8; have hS9 := hS8.of_bl ((Bl.refl w8).alloc (.cells #[.string ⟨(Nd.mk [] [] [] []).n.toArray⟩, .slice a1 (Nd.mk [] [] [] []).a.length c1, .string ⟨(Nd.mk [] [] [] []).x.toArray⟩, .slice k1 (Nd.mk [] [] [] []).k.length e1] 25)); have hQ9 := hQ8.of_bl ((Bl.refl w8).alloc (.cells #[.string ⟨(Nd.mk [] [] [] []).n.toArray⟩, .slice a1 (Nd.mk [] [] [] []).a.length c1, .string ⟨(Nd.mk [] [] [] []).x.toArray⟩, .slice k1 (Nd.mk [] [] [] []).k.length e1] 25)); obtain ⟨r0, r1, r2, r3, -⟩ := hS8.cells; obtain ⟨t0, t1, t2, t3, -⟩ := hQ9.cells; obtain ⟨o0, o1, o2, o3, -⟩ := hQ8.cells) | (go_at_call 14; (refine (sameOne_c (.mk [] [] [] []) (.mk [] [] [] []) _ _ _ _ _ hwm rfl ((nds_new (hA5.still (Still.of_bl hb58)) (hK5.of_bl hb58)).of_bl ((Bl.refl _).alloc (.cells #[.string ⟨#[]⟩, .slice none 0 0, .string ⟨#[]⟩, .slice none 0 0] 25))) (nds_new2 (o := (.cells #[.string ⟨(Nd.mk [] [] [] []).n.toArray⟩, .slice a1 (Nd.mk [] [] [] []).a.length c1, .string ⟨(Nd.mk [] [] [] []).x.toArray⟩, .slice k1 (Nd.mk [] [] [] []).k.length e1] 25)) (hA6.still (Still.of_bl hb58)) (hK6.of_bl hb58))).mono ?_); rintro e w9 ⟨rfl, hq9⟩; have hb09 := ((hb08.alloc (.cells #[.string ⟨(Nd.mk [] [] [] []).n.toArray⟩, .slice a1 (Nd.mk [] [] [] []).a.length c1, .string ⟨(Nd.mk [] [] [] []).x.toArray⟩, .slice k1 (Nd.mk [] [] [] []).k.length e1] 25)).alloc (.cells #[.string ⟨#[]⟩, .slice none 0 0, .string ⟨#[]⟩, .slice none 0 0] 25)).trans hq9.bl))
        go_ret
        exact ⟨rfl, hb09⟩
end Go.Proofs.YtkacjnifhmgeiaaGreatDoor

namespace Go.Proofs.YtkacjnifhmgeiaaGreatDoor
open Go.RowKit Go.ChangeShapes Go.WideShapes Go.ChangeAt Go.WideElems

section
variable {H : Type} {enc : TypeId × Value → H} {w : World} {sp : Nat → Bool} {held : Bool}
theorem node_of {n : Nat} {c : List Value} {y : DataW H × List MemPlace} (h : DataW.trod enc Tryz.prog w 0 sp held n 25 c = some y) :
    ∃ (m : Nd) (va vk : Value), c = [.string ⟨m.n.toArray⟩, va, .string ⟨m.x.toArray⟩, vk] ∧ AtP w (· < w.heap.size) va m.a ∧ NdS w (· < w.heap.size) vk m.k ∧ wtN m ≤ 6 * Rows.uptoBulk y.1 := by
  have c4 : Tryz.prog.cellsOf 25 = 4 := by kernel_rfl
  obtain ⟨y0, y1, y2, y3, m2, rfl, hx, hl, k0, k1, k2, k3⟩ := struct4n Tryz.underlying25 h
  rw [c4] at hl
  obtain ⟨x0, x1, x2, x3, rfl⟩ := four_of hl
  have c1 : Tryz.prog.cellsOf 9 = 1 := by kernel_rfl
  have c2 : Tryz.prog.cellsOf 23 = 1 := by kernel_rfl
  have c3 : Tryz.prog.cellsOf 22 = 1 := by kernel_rfl
  obtain ⟨s, e0, rfl, _⟩ := DataW.trod_string Tryz.underlying9 k0
  obtain ⟨va, al, e1, hA, hC, hz⟩ := attrs_of k1
  obtain ⟨t, e2, rfl, _⟩ := DataW.trod_string Tryz.underlying9 k2
  obtain ⟨vk, kl, e3, hN, hw⟩ := nodes_of m2 k3
  simp only [c1, c2, c3] at e0 e1 e2 e3
  simp at e0 e1 e2 e3
  subst e0 e1 e2 e3
  refine ⟨.mk s.data.toList al t.data.toList kl, x1, x3, by simp [Nd.n, Nd.x], AtP.of hA hC, hN, ?_⟩
  have hwa := wtA_sz al
  rw [hx]
  simp only [wtN, Rows.uptoBulk, Rows.uptoBulkAll]
  omega
set_option maxRecDepth 100000 in
/-- A node that is handed in. -/
theorem open_node {r : Reach} {b0 : Nat} {v : Value} {d : DataW H} {ps : List MemPlace} (hval : Value.okWide Tryz.prog w r b0 25 v) (hd : DataW.Trod enc Tryz.prog w 0 sp held 25 v d ps) :
    ∃ (m : Nd) (va vk : Value), v = .agg #[.string ⟨m.n.toArray⟩, va, .string ⟨m.x.toArray⟩, vk] ∧ AtP w (· < w.heap.size) va m.a ∧ NdS w (· < w.heap.size) vk m.k ∧ wtN m ≤ 6 * Rows.uptoBulk d := by
  obtain ⟨cs, rfl, _⟩ := okWide_struct Tryz.underlying25 hval
  obtain ⟨fuel, hf⟩ := hd
  obtain ⟨m, va, vk, h1, h2, h3, h4⟩ := node_of hf
  refine ⟨m, va, vk, ?_, h2, h3, h4⟩
  obtain ⟨l⟩ := cs
  simp only [Value.cells] at h1
  rw [h1]
end
end Go.Proofs.YtkacjnifhmgeiaaGreatDoor

/- Documents: the law XmlBack. -/
import Derived.Test.YtkacjnifhmgeiaaGreatDoorGrpL
import Derived.Test.YtkacjnifhmgeiaaGreatDoorXmlR
namespace Go.Proofs.YtkacjnifhmgeiaaGreatDoor
open Go.RowKit

theorem nds_new3 {W : World} {o o2 : Obj} {d : Nd} {va vk : Value} {P : Nat → Prop} (hA : AtP W P va d.a) (hK : NdS W P vk d.k) : NdS (((W.alloc o).alloc o2).alloc (.cells #[.string ⟨d.n.toArray⟩, va, .string ⟨d.x.toArray⟩, vk] 25)) (fun k => P k ∨ k = W.heap.size + 1 + 1) (.slice (some ⟨W.heap.size + 1 + 1, 0, none⟩) 1 1) [d] := by
  have h := nds_new2 (W := W.alloc o) (o := o2) (hA.still (Still.of_bl ((Bl.refl _).alloc o))) (hK.of_bl ((Bl.refl _).alloc o))
  rw [alloc_size] at h
  exact h
theorem rdX_written {d : Nd} (h1 : d.n ≠ []) (h2 : cxN false d = 0) (h3 : dpN d ≤ 8) (h4 : (wrX d).length ≤ 3000) : rdX (wrX d) = .ok d := by
  unfold rdX
  rw [if_neg (by omega)]
  exact XmP_written d h1 h2 h3
theorem rdX_right {s : List UInt8} {m : Nd} (h : rdX s = .ok m) : prX m = (wrX m, 0) ∧ m.n ≠ [] ∧ cxN false m = 0 ∧ (dpN m ≤ 8 ∧ wtN m ≤ 15000) := by
  unfold rdX at h
  split at h
  · cases h
  · obtain ⟨h1, h2, h3, h4⟩ := XmP_right s m h
    have h5 := XmP_wt h
    refine ⟨?_, h1, h2, h3, by omega⟩
    unfold prX
    rw [if_pos (ckX_of h1 h2 h3 (by omega))]
theorem tiX_err {t : List UInt8} {e : Int} (h : tiX t = .error e) : e ≠ 0 := by
  unfold tiX at h
  split at h
  · cases h
  · simp only [Except.error.injEq] at h; omega
theorem asX_err {t : List UInt8} {e : Int} (h : asX t = .error e) : e ≠ 0 := by
  unfold asX at h
  split at h
  · cases e1 : cutS sComE (t.drop 4) with
    | none => rw [e1] at h; simp only [Except.error.injEq] at h; omega
    | some u => rw [e1] at h; cases h
  · split at h
    · cases e1 : cutS sPiE (t.drop 2) with
      | none => rw [e1] at h; simp only [Except.error.injEq] at h; omega
      | some u => rw [e1] at h; cases h
    · cases h
theorem miF_err (k : Nat) : ∀ (t : List UInt8) (e : Int), miF k t = .error e → e ≠ 0 := by
  induction k with
  | zero => intro t e h; simp [miF] at h
  | succ k ih =>
    intro t e h
    unfold miF at h
    split at h
    · exact ih _ _ h
    · cases e1 : asX t with
      | error n => rw [e1] at h; simp only [Except.error.injEq] at h; subst h; exact asX_err e1
      | ok o =>
        rw [e1] at h
        cases o with
        | none => cases h
        | some u => exact ih _ _ h
theorem vaX_err {t : List UInt8} {e : Int} (h : vaX t = .error e) : e ≠ 0 := by
  rw [vaX_eq] at h
  generalize (if pre [39] (wsX ((wsX t).drop 1)) = true then (39 : UInt8) else 34) = q at h
  split at h
  · simp only [Except.error.injEq] at h; omega
  · split at h
    · simp only [Except.error.injEq] at h; omega
    · cases h3 : toS [q] ((wsX ((wsX t).drop 1)).drop 1) with
      | none => rw [h3] at h; simp only [Except.error.injEq] at h; omega
      | some vr =>
        obtain ⟨v0, r0⟩ := vr
        rw [h3] at h
        simp only [] at h
        split at h
        · simp only [Except.error.injEq] at h; omega
        · split at h
          · cases h
          · simp only [Except.error.injEq] at h; omega
theorem asF_err (k : Nat) : ∀ (t : List UInt8) (out : List Atr) (e : Int), asF k t out = .error e → e ≠ 0 := by
  induction k with
  | zero => intro t out e h; simp [asF] at h
  | succ k ih =>
    intro t out e h
    unfold asF at h
    split at h
    · cases e1 : tiX (wsX t) with
      | error n => rw [e1] at h; simp only [Except.error.injEq] at h; subst h; exact tiX_err e1
      | ok nr =>
        obtain ⟨n, t1⟩ := nr
        rw [e1] at h
        simp only [] at h
        cases e2 : vaX t1 with
        | error n => rw [e2] at h; simp only [Except.error.injEq] at h; subst h; exact vaX_err e2
        | ok vr =>
          obtain ⟨v, r'⟩ := vr
          rw [e2] at h
          simp only [] at h
          split at h
          · simp only [Except.error.injEq] at h; omega
          · exact ih _ _ _ h
    · cases h
theorem xm_err (k : Nat) : (∀ (deep : Nat) (t : List UInt8) (e : Int), elF k deep t = .error e → e ≠ 0) ∧ (∀ (deep : Nat) (t : List UInt8) (out : List Nd) (e : Int), kiF k deep t out = .error e → e ≠ 0) := by
  induction k with
  | zero => exact ⟨fun _ _ _ h => by simp [elF] at h; omega, fun _ _ _ _ h => by simp [kiF] at h; omega⟩
  | succ k ih =>
    obtain ⟨ie, ik⟩ := ih
    refine ⟨fun deep t e h => ?_, fun deep t out e h => ?_⟩
    · rw [elF_eq] at h
      split at h
      · simp only [Except.error.injEq] at h; omega
      · cases e1 : tiX (t.drop 1) with
        | error n => rw [e1] at h; simp only [Except.error.injEq] at h; subst h; exact tiX_err e1
        | ok nt =>
          obtain ⟨n, t1⟩ := nt
          rw [e1] at h
          simp only [] at h
          split at h
          · simp only [Except.error.injEq] at h; omega
          · cases e2 : atrX t1 with
            | error n => rw [e2] at h; simp only [Except.error.injEq] at h; subst h; exact asF_err _ _ _ _ e2
            | ok at2 =>
              obtain ⟨a, t2⟩ := at2
              rw [e2] at h
              simp only [] at h
              unfold elR at h
              split at h
              · cases h
              · split at h
                · simp only [Except.error.injEq] at h; omega
                · cases e3 : kiF k deep (t2.drop 1) [] with
                  | error n => rw [e3] at h; simp only [Except.error.injEq] at h; subst h; exact ik _ _ _ _ e3
                  | ok lt =>
                    obtain ⟨l, t4⟩ := lt
                    rw [e3] at h
                    simp only [] at h
                    cases e4 : tiX t4 with
                    | error n => rw [e4] at h; simp only [Except.error.injEq] at h; subst h; exact tiX_err e4
                    | ok mt =>
                      obtain ⟨m, t5⟩ := mt
                      rw [e4] at h
                      simp only [] at h
                      split at h
                      · simp only [Except.error.injEq] at h; omega
                      · split at h
                        · simp only [Except.error.injEq] at h; omega
                        · cases h
    · unfold kiF at h
      split at h
      · cases h
      · split at h
        · cases e1 : toS sCdE (t.drop 9) with
          | none => rw [e1] at h; simp only [Except.error.injEq] at h; omega
          | some vr => obtain ⟨v, r0⟩ := vr; rw [e1] at h; exact ik _ _ _ _ h
        · cases e1 : asX t with
          | error n => rw [e1] at h; simp only [Except.error.injEq] at h; subst h; exact asX_err e1
          | ok o =>
            rw [e1] at h
            cases o with
            | some u => exact ik _ _ _ _ h
            | none =>
              simp only [] at h
              split at h
              · cases e2 : elF k (deep + 1) t with
                | error n => rw [e2] at h; simp only [Except.error.injEq] at h; subst h; exact ie _ _ _ e2
                | ok du => obtain ⟨d, r0⟩ := du; rw [e2] at h; exact ik _ _ _ _ h
              · split at h
                · simp only [Except.error.injEq] at h; omega
                · split at h
                  · simp only [Except.error.injEq] at h; omega
                  · exact ik _ _ _ _ h
theorem rdX_err {s : List UInt8} {n : Int} (h : rdX s = .error n) : n ≠ 0 := by
  unfold rdX at h
  split at h
  · simp only [Except.error.injEq] at h; omega
  · unfold XmP at h
    cases e0 : miX s with
    | error e => rw [e0] at h; simp only [Except.error.injEq] at h; subst h; exact miF_err _ _ _ e0
    | ok t =>
      rw [e0] at h
      simp only [] at h
      cases e1 : elF (2 * t.length + 2) 1 t with
      | error e => rw [e1] at h; simp only [Except.error.injEq] at h; subst h; exact (xm_err _).1 _ _ _ e1
      | ok dt =>
        obtain ⟨d', t1⟩ := dt
        rw [e1] at h
        simp only [] at h
        cases e2 : miX t1 with
        | error e => rw [e2] at h; simp only [Except.error.injEq] at h; subst h; exact miF_err _ _ _ e2
        | ok t2 =>
          rw [e2] at h
          simp only [] at h
          split at h
          · cases h
          · simp only [Except.error.injEq] at h; omega
set_option maxRecDepth 100000 in
set_option maxHeartbeats 16000000 in
theorem xmlBack_c (s : List UInt8) (hs : s.length ≤ 281474976710656) (d : Nd) (va vk : Value) (P : Nat → Prop) (w : World) (hwt : wtN d ≤ 9000000) (hA : AtP w P va d.a) (hK : NdS w P vk d.k) (hE : ES w) (hM : ML w) :
    Calls Tryz.prog 4 #[.string ⟨s.toArray⟩, .agg #[.string ⟨d.n.toArray⟩, va, .string ⟨d.x.toArray⟩, vk]] w fun e w' => e = .returned (.bool true) ∧ Bl w w' := by
  obtain ⟨ao, ac, rfl, -⟩ := id hA
  obtain ⟨ko, kc, rfl, -⟩ := id hK
  have hN0 := nb_par w d.n d.x ao d.a.length ac ko d.k.length kc
  have hb0 := (Bl.refl w).alloc (.cells #[.string ⟨d.n.toArray⟩, .slice ao d.a.length ac, .string ⟨d.x.toArray⟩, .slice ko d.k.length kc] 25)
  have hwd : wtL [d] ≤ 1099511627770 := by simp only [wtL]; omega
  have PC := Lib.hid (fun W (hb : Bl w W) => printX_c d (.slice ao d.a.length ac) (.slice ko d.k.length kc) P W hwt (hA.still (Still.of_bl hb)) (hK.of_bl hb))
  have RS := Lib.hid (fun W h hm => readX_c s W (by omega) h hm)
  by_cases hc : ckX d = 0
  · obtain ⟨d1, d2, d3⟩ := ckX_right hc
    have hp : prX d = (wrX d, 0) := by unfold prX; rw [if_pos hc]
    rw [hp] at PC
    clear hp hc
    by_cases h1 : (wrX d).length ≤ 3000
    · have h1' : ((wrX d).length : Int) ≤ 3000 := by omega
      have RD := Lib.hid (fun W h hm => readX_c (wrX d) W (by omega) h hm)
      rw [rdX_written d1 d2 d3 h1] at RD
      cases hr : rdX s with
      | error n =>
        have hn0 := rdX_err hr
        have hn1 : (n != 0) = true := by simpa using hn0
        rw [hr] at RS
        clear hr hn0
        go_enter Tryz.func4, Tryz.ntmps4
        go_wp2_with (first | (go_at_call 12; (with_reducible refine (xmlBegun_c _ (hE.of_bl hb0) (hM.of_bl hb0)).mono ?_); rintro e w1 ⟨rfl, hb1⟩; have hb01 := hb0.trans hb1; have hN1 := hN0.of_bl hb1; obtain ⟨m0, m1, m2, m3, -⟩ := hN1.cells) | (go_at_call 7; (with_reducible refine (PC.out _ hb01).mono ?_); rintro e w2 ⟨rfl, hb2⟩; have hb02 := hb01.trans hb2; have hN2 := hN1.of_bl hb2; clear m0 m1 m2 m3; obtain ⟨m0, m1, m2, m3, -⟩ := hN2.cells) | (go_at_call 6; (with_reducible refine (RD.out _ (hE.of_bl hb02) (hM.of_bl hb02)).mono ?_); rintro e w3 ⟨hb3, va3, vk3, rfl, P3, hA3, hK3, hP3⟩; obtain ⟨a3, c3, rfl, -⟩ := id hA3; obtain ⟨k3, e3, rfl, -⟩ := id hK3; have hb03 := hb02.trans hb3; have hN3 := hN2.of_bl hb3; clear m0 m1 m2 m3; obtain ⟨m0, m1, m2, m3, -⟩ := hN3.cells; have hl3 := hN3.lt) | (go_at_call 14; (with_reducible refine (sameOne_c d d _ _ _ _ _ hwd rfl ((nds_new2 (o := (.cells #[.string ⟨d.n.toArray⟩, .slice a3 d.a.length c3, .string ⟨d.x.toArray⟩, .slice k3 d.k.length e3] 25)) hA3 hK3).of_bl ((Bl.refl _).alloc (.cells #[.string ⟨d.n.toArray⟩, .slice ao d.a.length ac, .string ⟨d.x.toArray⟩, .slice ko d.k.length kc] 25))) (nds_new3 (o := (.cells #[.string ⟨d.n.toArray⟩, .slice a3 d.a.length c3, .string ⟨d.x.toArray⟩, .slice k3 d.k.length e3] 25)) (o2 := (.cells #[.string ⟨d.n.toArray⟩, .slice a3 d.a.length c3, .string ⟨d.x.toArray⟩, .slice k3 d.k.length e3] 25)) (hA.still (Still.of_bl hb03)) (hK.of_bl hb03))).mono ?_); rintro e w4 ⟨rfl, hq4⟩; have hb04 := (((hb03.alloc (.cells #[.string ⟨d.n.toArray⟩, .slice a3 d.a.length c3, .string ⟨d.x.toArray⟩, .slice k3 d.k.length e3] 25)).alloc (.cells #[.string ⟨d.n.toArray⟩, .slice a3 d.a.length c3, .string ⟨d.x.toArray⟩, .slice k3 d.k.length e3] 25)).alloc (.cells #[.string ⟨d.n.toArray⟩, .slice ao d.a.length ac, .string ⟨d.x.toArray⟩, .slice ko d.k.length kc] 25)).trans hq4.bl) | (go_at_call 6; (with_reducible refine (RS.out _ (hE.of_bl hb04) (hM.of_bl hb04)).mono ?_); rintro e w5 ⟨hb5, rfl⟩; have hb05 := hb04.trans hb5))
        go_ret
        exact ⟨rfl, hb05.alloc _⟩
      | ok m =>
        rw [hr] at RS
        obtain ⟨hm1, hm2, hm3, hm4⟩ := rdX_right hr
        have hwm : wtL [m] ≤ 1099511627770 := by simp only [wtL]; omega
        have PM := Lib.hid (fun W va vk P (ha : AtP W P va m.a) (hk : NdS W P vk m.k) => printX_c m va vk P W (by omega) ha hk)
        rw [hm1] at PM
        clear hr
        by_cases h3 : 3000 < (wrX m).length
        · have h3' : (3000 : Int) < ((wrX m).length : Int) := by omega
          go_enter Tryz.func4, Tryz.ntmps4
          go_wp2_with (first | (go_at_call 12; (with_reducible refine (xmlBegun_c _ (hE.of_bl hb0) (hM.of_bl hb0)).mono ?_); rintro e w1 ⟨rfl, hb1⟩; have hb01 := hb0.trans hb1; have hN1 := hN0.of_bl hb1; obtain ⟨m0, m1, m2, m3, -⟩ := hN1.cells) | (go_at_call 7; (with_reducible refine (PC.out _ hb01).mono ?_); rintro e w2 ⟨rfl, hb2⟩; have hb02 := hb01.trans hb2; have hN2 := hN1.of_bl hb2; clear m0 m1 m2 m3; obtain ⟨m0, m1, m2, m3, -⟩ := hN2.cells) | (go_at_call 6; (with_reducible refine (RD.out _ (hE.of_bl hb02) (hM.of_bl hb02)).mono ?_); rintro e w3 ⟨hb3, va3, vk3, rfl, P3, hA3, hK3, hP3⟩; obtain ⟨a3, c3, rfl, -⟩ := id hA3; obtain ⟨k3, e3, rfl, -⟩ := id hK3; have hb03 := hb02.trans hb3; have hN3 := hN2.of_bl hb3; clear m0 m1 m2 m3; obtain ⟨m0, m1, m2, m3, -⟩ := hN3.cells; have hl3 := hN3.lt) | (go_at_call 14; (with_reducible refine (sameOne_c d d _ _ _ _ _ hwd rfl ((nds_new2 (o := (.cells #[.string ⟨d.n.toArray⟩, .slice a3 d.a.length c3, .string ⟨d.x.toArray⟩, .slice k3 d.k.length e3] 25)) hA3 hK3).of_bl ((Bl.refl _).alloc (.cells #[.string ⟨d.n.toArray⟩, .slice ao d.a.length ac, .string ⟨d.x.toArray⟩, .slice ko d.k.length kc] 25))) (nds_new3 (o := (.cells #[.string ⟨d.n.toArray⟩, .slice a3 d.a.length c3, .string ⟨d.x.toArray⟩, .slice k3 d.k.length e3] 25)) (o2 := (.cells #[.string ⟨d.n.toArray⟩, .slice a3 d.a.length c3, .string ⟨d.x.toArray⟩, .slice k3 d.k.length e3] 25)) (hA.still (Still.of_bl hb03)) (hK.of_bl hb03))).mono ?_); rintro e w4 ⟨rfl, hq4⟩; have hb04 := (((hb03.alloc (.cells #[.string ⟨d.n.toArray⟩, .slice a3 d.a.length c3, .string ⟨d.x.toArray⟩, .slice k3 d.k.length e3] 25)).alloc (.cells #[.string ⟨d.n.toArray⟩, .slice a3 d.a.length c3, .string ⟨d.x.toArray⟩, .slice k3 d.k.length e3] 25)).alloc (.cells #[.string ⟨d.n.toArray⟩, .slice ao d.a.length ac, .string ⟨d.x.toArray⟩, .slice ko d.k.length kc] 25)).trans hq4.bl) | (go_at_call 6; (with_reducible refine (RS.out _ (hE.of_bl hb04) (hM.of_bl hb04)).mono ?_); rintro e w5 ⟨hb5, va5, vk5, rfl, P5, hA5, hK5, hP5⟩; obtain ⟨a5, c5, rfl, -⟩ := id hA5; obtain ⟨k5, e5, rfl, -⟩ := id hK5; have hb05 := hb04.trans hb5; have hN5 := nb_par w5 m.n m.x a5 m.a.length c5 k5 m.k.length e5; have hb5a := (Bl.refl w5).alloc (.cells #[.string ⟨m.n.toArray⟩, .slice a5 m.a.length c5, .string ⟨m.x.toArray⟩, .slice k5 m.k.length e5] 25); have hb05a := hb05.alloc (.cells #[.string ⟨m.n.toArray⟩, .slice a5 m.a.length c5, .string ⟨m.x.toArray⟩, .slice k5 m.k.length e5] 25)) | (go_at_call 7; (with_reducible refine (PM.out _ _ _ P5 (hA5.still (Still.of_bl hb5a)) (hK5.of_bl hb5a)).mono ?_); rintro e w6 ⟨rfl, hb6⟩; have hb06 := hb05a.trans hb6; have hN6 := hN5.of_bl hb6; obtain ⟨p0, p1, p2, p3, -⟩ := hN6.cells))
          go_ret
          exact ⟨rfl, hb06⟩
        · have h3' : ¬ (3000 : Int) < ((wrX m).length : Int) := by omega
          have RM := Lib.hid (fun W h hm => readX_c (wrX m) W (by omega) h hm)
          rw [rdX_written hm2 hm3 hm4.1 (by omega)] at RM
          go_enter Tryz.func4, Tryz.ntmps4
          go_wp2_with (first | (go_at_call 12; (with_reducible refine (xmlBegun_c _ (hE.of_bl hb0) (hM.of_bl hb0)).mono ?_); rintro e w1 ⟨rfl, hb1⟩; have hb01 := hb0.trans hb1; have hN1 := hN0.of_bl hb1; obtain ⟨m0, m1, m2, m3, -⟩ := hN1.cells) | (go_at_call 7; (with_reducible refine (PC.out _ hb01).mono ?_); rintro e w2 ⟨rfl, hb2⟩; have hb02 := hb01.trans hb2; have hN2 := hN1.of_bl hb2; clear m0 m1 m2 m3; obtain ⟨m0, m1, m2, m3, -⟩ := hN2.cells) | (go_at_call 6; (with_reducible refine (RD.out _ (hE.of_bl hb02) (hM.of_bl hb02)).mono ?_); rintro e w3 ⟨hb3, va3, vk3, rfl, P3, hA3, hK3, hP3⟩; obtain ⟨a3, c3, rfl, -⟩ := id hA3; obtain ⟨k3, e3, rfl, -⟩ := id hK3; have hb03 := hb02.trans hb3; have hN3 := hN2.of_bl hb3; clear m0 m1 m2 m3; obtain ⟨m0, m1, m2, m3, -⟩ := hN3.cells; have hl3 := hN3.lt) | (go_at_call 14; (with_reducible refine (sameOne_c d d _ _ _ _ _ hwd rfl ((nds_new2 (o := (.cells #[.string ⟨d.n.toArray⟩, .slice a3 d.a.length c3, .string ⟨d.x.toArray⟩, .slice k3 d.k.length e3] 25)) hA3 hK3).of_bl ((Bl.refl _).alloc (.cells #[.string ⟨d.n.toArray⟩, .slice ao d.a.length ac, .string ⟨d.x.toArray⟩, .slice ko d.k.length kc] 25))) (nds_new3 (o := (.cells #[.string ⟨d.n.toArray⟩, .slice a3 d.a.length c3, .string ⟨d.x.toArray⟩, .slice k3 d.k.length e3] 25)) (o2 := (.cells #[.string ⟨d.n.toArray⟩, .slice a3 d.a.length c3, .string ⟨d.x.toArray⟩, .slice k3 d.k.length e3] 25)) (hA.still (Still.of_bl hb03)) (hK.of_bl hb03))).mono ?_); rintro e w4 ⟨rfl, hq4⟩; have hb04 := (((hb03.alloc (.cells #[.string ⟨d.n.toArray⟩, .slice a3 d.a.length c3, .string ⟨d.x.toArray⟩, .slice k3 d.k.length e3] 25)).alloc (.cells #[.string ⟨d.n.toArray⟩, .slice a3 d.a.length c3, .string ⟨d.x.toArray⟩, .slice k3 d.k.length e3] 25)).alloc (.cells #[.string ⟨d.n.toArray⟩, .slice ao d.a.length ac, .string ⟨d.x.toArray⟩, .slice ko d.k.length kc] 25)).trans hq4.bl) | (go_at_call 6; (with_reducible refine (RS.out _ (hE.of_bl hb04) (hM.of_bl hb04)).mono ?_); rintro e w5 ⟨hb5, va5, vk5, rfl, P5, hA5, hK5, hP5⟩; obtain ⟨a5, c5, rfl, -⟩ := id hA5; obtain ⟨k5, e5, rfl, -⟩ := id hK5; have hb05 := hb04.trans hb5; have hN5 := nb_par w5 m.n m.x a5 m.a.length c5 k5 m.k.length e5; have hb5a := (Bl.refl w5).alloc (.cells #[.string ⟨m.n.toArray⟩, .slice a5 m.a.length c5, .string ⟨m.x.toArray⟩, .slice k5 m.k.length e5] 25); have hb05a := hb05.alloc (.cells #[.string ⟨m.n.toArray⟩, .slice a5 m.a.length c5, .string ⟨m.x.toArray⟩, .slice k5 m.k.length e5] 25)) | (go_at_call 7; (with_reducible refine (PM.out _ _ _ P5 (hA5.still (Still.of_bl hb5a)) (hK5.of_bl hb5a)).mono ?_); rintro e w6 ⟨rfl, hb6⟩; have hb06 := hb05a.trans hb6; have hN6 := hN5.of_bl hb6; obtain ⟨p0, p1, p2, p3, -⟩ := hN6.cells) | (go_at_call 6; (with_reducible refine (RM.out _ (hE.of_bl hb06) (hM.of_bl hb06)).mono ?_); rintro e w7 ⟨hb7, va7, vk7, rfl, P7, hA7, hK7, hP7⟩; obtain ⟨a7, c7, rfl, -⟩ := id hA7; obtain ⟨k7, e7, rfl, -⟩ := id hK7; have hb07 := hb06.trans hb7; have hN7 := hN6.of_bl hb7; clear p0 p1 p2 p3; obtain ⟨p0, p1, p2, p3, -⟩ := hN7.cells; have hl7 := hN7.lt; have hb57 := (hb5a.trans hb6).trans hb7) | (go_at_call 14; (with_reducible refine (sameOne_c m m _ _ _ _ _ hwm rfl ((nds_new2 (o := (.cells #[.string ⟨m.n.toArray⟩, .slice a7 m.a.length c7, .string ⟨m.x.toArray⟩, .slice k7 m.k.length e7] 25)) hA7 hK7).of_bl ((Bl.refl _).alloc (.cells #[.string ⟨m.n.toArray⟩, .slice a5 m.a.length c5, .string ⟨m.x.toArray⟩, .slice k5 m.k.length e5] 25))) (nds_new3 (o := (.cells #[.string ⟨m.n.toArray⟩, .slice a7 m.a.length c7, .string ⟨m.x.toArray⟩, .slice k7 m.k.length e7] 25)) (o2 := (.cells #[.string ⟨m.n.toArray⟩, .slice a7 m.a.length c7, .string ⟨m.x.toArray⟩, .slice k7 m.k.length e7] 25)) (hA5.still (Still.of_bl hb57)) (hK5.of_bl hb57))).mono ?_); rintro e w8 ⟨rfl, hq8⟩))
          go_ret
          exact ⟨rfl, (((hb07.alloc _).alloc _).alloc _).trans hq8.bl⟩
    · have h1' : ¬ ((wrX d).length : Int) ≤ 3000 := by omega
      have h1d : decide (((wrX d).length : Int) ≤ 3000) = false := by simp; omega
      cases hr : rdX s with
      | error n =>
        have hn0 := rdX_err hr
        have hn1 : (n != 0) = true := by simpa using hn0
        rw [hr] at RS
        clear hr hn0
        go_enter Tryz.func4, Tryz.ntmps4
        go_wp2_with (first | (go_at_call 12; (with_reducible refine (xmlBegun_c _ (hE.of_bl hb0) (hM.of_bl hb0)).mono ?_); rintro e w1 ⟨rfl, hb1⟩; have hb01 := hb0.trans hb1; have hN1 := hN0.of_bl hb1; obtain ⟨m0, m1, m2, m3, -⟩ := hN1.cells) | (go_at_call 7; (with_reducible refine (PC.out _ hb01).mono ?_); rintro e w2 ⟨rfl, hb2⟩; have hb02 := hb01.trans hb2; have hN2 := hN1.of_bl hb2; clear m0 m1 m2 m3; obtain ⟨m0, m1, m2, m3, -⟩ := hN2.cells) | (go_at_call 6; (with_reducible refine (RS.out _ (hE.of_bl hb02) (hM.of_bl hb02)).mono ?_); rintro e w5 ⟨hb5, rfl⟩; have hb05 := hb02.trans hb5))
        go_ret
        exact ⟨rfl, hb05.alloc _⟩
      | ok m =>
        rw [hr] at RS
        obtain ⟨hm1, hm2, hm3, hm4⟩ := rdX_right hr
        have hwm : wtL [m] ≤ 1099511627770 := by simp only [wtL]; omega
        have PM := Lib.hid (fun W va vk P (ha : AtP W P va m.a) (hk : NdS W P vk m.k) => printX_c m va vk P W (by omega) ha hk)
        rw [hm1] at PM
        clear hr
        by_cases h3 : 3000 < (wrX m).length
        · have h3' : (3000 : Int) < ((wrX m).length : Int) := by omega
          go_enter Tryz.func4, Tryz.ntmps4
          go_wp2_with (first | (go_at_call 12; (with_reducible refine (xmlBegun_c _ (hE.of_bl hb0) (hM.of_bl hb0)).mono ?_); rintro e w1 ⟨rfl, hb1⟩; have hb01 := hb0.trans hb1; have hN1 := hN0.of_bl hb1; obtain ⟨m0, m1, m2, m3, -⟩ := hN1.cells) | (go_at_call 7; (with_reducible refine (PC.out _ hb01).mono ?_); rintro e w2 ⟨rfl, hb2⟩; have hb02 := hb01.trans hb2; have hN2 := hN1.of_bl hb2; clear m0 m1 m2 m3; obtain ⟨m0, m1, m2, m3, -⟩ := hN2.cells) | (go_at_call 6; (with_reducible refine (RS.out _ (hE.of_bl hb02) (hM.of_bl hb02)).mono ?_); rintro e w5 ⟨hb5, va5, vk5, rfl, P5, hA5, hK5, hP5⟩; obtain ⟨a5, c5, rfl, -⟩ := id hA5; obtain ⟨k5, e5, rfl, -⟩ := id hK5; have hb05 := hb02.trans hb5; have hN5 := nb_par w5 m.n m.x a5 m.a.length c5 k5 m.k.length e5; have hb5a := (Bl.refl w5).alloc (.cells #[.string ⟨m.n.toArray⟩, .slice a5 m.a.length c5, .string ⟨m.x.toArray⟩, .slice k5 m.k.length e5] 25); have hb05a := hb05.alloc (.cells #[.string ⟨m.n.toArray⟩, .slice a5 m.a.length c5, .string ⟨m.x.toArray⟩, .slice k5 m.k.length e5] 25)) | (go_at_call 7; (with_reducible refine (PM.out _ _ _ P5 (hA5.still (Still.of_bl hb5a)) (hK5.of_bl hb5a)).mono ?_); rintro e w6 ⟨rfl, hb6⟩; have hb06 := hb05a.trans hb6; have hN6 := hN5.of_bl hb6; obtain ⟨p0, p1, p2, p3, -⟩ := hN6.cells))
          go_ret
          exact ⟨rfl, hb06⟩
        · have h3' : ¬ (3000 : Int) < ((wrX m).length : Int) := by omega
          have RM := Lib.hid (fun W h hm => readX_c (wrX m) W (by omega) h hm)
          rw [rdX_written hm2 hm3 hm4.1 (by omega)] at RM
          go_enter Tryz.func4, Tryz.ntmps4
          go_wp2_with (first | (go_at_call 12; (with_reducible refine (xmlBegun_c _ (hE.of_bl hb0) (hM.of_bl hb0)).mono ?_); rintro e w1 ⟨rfl, hb1⟩; have hb01 := hb0.trans hb1; have hN1 := hN0.of_bl hb1; obtain ⟨m0, m1, m2, m3, -⟩ := hN1.cells) | (go_at_call 7; (with_reducible refine (PC.out _ hb01).mono ?_); rintro e w2 ⟨rfl, hb2⟩; have hb02 := hb01.trans hb2; have hN2 := hN1.of_bl hb2; clear m0 m1 m2 m3; obtain ⟨m0, m1, m2, m3, -⟩ := hN2.cells) | (go_at_call 6; (with_reducible refine (RS.out _ (hE.of_bl hb02) (hM.of_bl hb02)).mono ?_); rintro e w5 ⟨hb5, va5, vk5, rfl, P5, hA5, hK5, hP5⟩; obtain ⟨a5, c5, rfl, -⟩ := id hA5; obtain ⟨k5, e5, rfl, -⟩ := id hK5; have hb05 := hb02.trans hb5; have hN5 := nb_par w5 m.n m.x a5 m.a.length c5 k5 m.k.length e5; have hb5a := (Bl.refl w5).alloc (.cells #[.string ⟨m.n.toArray⟩, .slice a5 m.a.length c5, .string ⟨m.x.toArray⟩, .slice k5 m.k.length e5] 25); have hb05a := hb05.alloc (.cells #[.string ⟨m.n.toArray⟩, .slice a5 m.a.length c5, .string ⟨m.x.toArray⟩, .slice k5 m.k.length e5] 25)) | (go_at_call 7; (with_reducible refine (PM.out _ _ _ P5 (hA5.still (Still.of_bl hb5a)) (hK5.of_bl hb5a)).mono ?_); rintro e w6 ⟨rfl, hb6⟩; have hb06 := hb05a.trans hb6; have hN6 := hN5.of_bl hb6; obtain ⟨p0, p1, p2, p3, -⟩ := hN6.cells) | (go_at_call 6; (with_reducible refine (RM.out _ (hE.of_bl hb06) (hM.of_bl hb06)).mono ?_); rintro e w7 ⟨hb7, va7, vk7, rfl, P7, hA7, hK7, hP7⟩; obtain ⟨a7, c7, rfl, -⟩ := id hA7; obtain ⟨k7, e7, rfl, -⟩ := id hK7; have hb07 := hb06.trans hb7; have hN7 := hN6.of_bl hb7; clear p0 p1 p2 p3; obtain ⟨p0, p1, p2, p3, -⟩ := hN7.cells; have hl7 := hN7.lt; have hb57 := (hb5a.trans hb6).trans hb7) | (go_at_call 14; (with_reducible refine (sameOne_c m m _ _ _ _ _ hwm rfl ((nds_new2 (o := (.cells #[.string ⟨m.n.toArray⟩, .slice a7 m.a.length c7, .string ⟨m.x.toArray⟩, .slice k7 m.k.length e7] 25)) hA7 hK7).of_bl ((Bl.refl _).alloc (.cells #[.string ⟨m.n.toArray⟩, .slice a5 m.a.length c5, .string ⟨m.x.toArray⟩, .slice k5 m.k.length e5] 25))) (nds_new3 (o := (.cells #[.string ⟨m.n.toArray⟩, .slice a7 m.a.length c7, .string ⟨m.x.toArray⟩, .slice k7 m.k.length e7] 25)) (o2 := (.cells #[.string ⟨m.n.toArray⟩, .slice a7 m.a.length c7, .string ⟨m.x.toArray⟩, .slice k7 m.k.length e7] 25)) (hA5.still (Still.of_bl hb57)) (hK5.of_bl hb57))).mono ?_); rintro e w8 ⟨rfl, hq8⟩))
          go_ret
          exact ⟨rfl, (((hb07.alloc _).alloc _).alloc _).trans hq8.bl⟩
  · have hp : prX d = ([], ckX d) := by unfold prX; rw [if_neg hc]
    rw [hp] at PC
    obtain ⟨q, hq⟩ : ∃ q, q = ckX d := ⟨_, rfl⟩
    rw [← hq] at PC hc
    have hq1 : (q == 0) = false := by simpa using hc
    clear hp hc hq
    cases hr : rdX s with
    | error n =>
      have hn0 := rdX_err hr
      have hn1 : (n != 0) = true := by simpa using hn0
      rw [hr] at RS
      clear hr hn0
      go_enter Tryz.func4, Tryz.ntmps4
      go_wp2_with (first | (go_at_call 12; (with_reducible refine (xmlBegun_c _ (hE.of_bl hb0) (hM.of_bl hb0)).mono ?_); rintro e w1 ⟨rfl, hb1⟩; have hb01 := hb0.trans hb1; have hN1 := hN0.of_bl hb1; obtain ⟨m0, m1, m2, m3, -⟩ := hN1.cells) | (go_at_call 7; (with_reducible refine (PC.out _ hb01).mono ?_); rintro e w2 ⟨rfl, hb2⟩; have hb02 := hb01.trans hb2; have hN2 := hN1.of_bl hb2; clear m0 m1 m2 m3; obtain ⟨m0, m1, m2, m3, -⟩ := hN2.cells) | (go_at_call 6; (with_reducible refine (RS.out _ (hE.of_bl hb02) (hM.of_bl hb02)).mono ?_); rintro e w5 ⟨hb5, rfl⟩; have hb05 := hb02.trans hb5))
      go_ret
      exact ⟨rfl, hb05.alloc _⟩
    | ok m =>
      rw [hr] at RS
      obtain ⟨hm1, hm2, hm3, hm4⟩ := rdX_right hr
      have hwm : wtL [m] ≤ 1099511627770 := by simp only [wtL]; omega
      have PM := Lib.hid (fun W va vk P (ha : AtP W P va m.a) (hk : NdS W P vk m.k) => printX_c m va vk P W (by omega) ha hk)
      rw [hm1] at PM
      clear hr
      by_cases h3 : 3000 < (wrX m).length
      · have h3' : (3000 : Int) < ((wrX m).length : Int) := by omega
        go_enter Tryz.func4, Tryz.ntmps4
        go_wp2_with (first | (go_at_call 12; (with_reducible refine (xmlBegun_c _ (hE.of_bl hb0) (hM.of_bl hb0)).mono ?_); rintro e w1 ⟨rfl, hb1⟩; have hb01 := hb0.trans hb1; have hN1 := hN0.of_bl hb1; obtain ⟨m0, m1, m2, m3, -⟩ := hN1.cells) | (go_at_call 7; (with_reducible refine (PC.out _ hb01).mono ?_); rintro e w2 ⟨rfl, hb2⟩; have hb02 := hb01.trans hb2; have hN2 := hN1.of_bl hb2; clear m0 m1 m2 m3; obtain ⟨m0, m1, m2, m3, -⟩ := hN2.cells) | (go_at_call 6; (with_reducible refine (RS.out _ (hE.of_bl hb02) (hM.of_bl hb02)).mono ?_); rintro e w5 ⟨hb5, va5, vk5, rfl, P5, hA5, hK5, hP5⟩; obtain ⟨a5, c5, rfl, -⟩ := id hA5; obtain ⟨k5, e5, rfl, -⟩ := id hK5; have hb05 := hb02.trans hb5; have hN5 := nb_par w5 m.n m.x a5 m.a.length c5 k5 m.k.length e5; have hb5a := (Bl.refl w5).alloc (.cells #[.string ⟨m.n.toArray⟩, .slice a5 m.a.length c5, .string ⟨m.x.toArray⟩, .slice k5 m.k.length e5] 25); have hb05a := hb05.alloc (.cells #[.string ⟨m.n.toArray⟩, .slice a5 m.a.length c5, .string ⟨m.x.toArray⟩, .slice k5 m.k.length e5] 25)) | (go_at_call 7; (with_reducible refine (PM.out _ _ _ P5 (hA5.still (Still.of_bl hb5a)) (hK5.of_bl hb5a)).mono ?_); rintro e w6 ⟨rfl, hb6⟩; have hb06 := hb05a.trans hb6; have hN6 := hN5.of_bl hb6; obtain ⟨p0, p1, p2, p3, -⟩ := hN6.cells))
        go_ret
        exact ⟨rfl, hb06⟩
      · have h3' : ¬ (3000 : Int) < ((wrX m).length : Int) := by omega
        have RM := Lib.hid (fun W h hm => readX_c (wrX m) W (by omega) h hm)
        rw [rdX_written hm2 hm3 hm4.1 (by omega)] at RM
        go_enter Tryz.func4, Tryz.ntmps4
        go_wp2_with (first | (go_at_call 12; (with_reducible refine (xmlBegun_c _ (hE.of_bl hb0) (hM.of_bl hb0)).mono ?_); rintro e w1 ⟨rfl, hb1⟩; have hb01 := hb0.trans hb1; have hN1 := hN0.of_bl hb1; obtain ⟨m0, m1, m2, m3, -⟩ := hN1.cells) | (go_at_call 7; (with_reducible refine (PC.out _ hb01).mono ?_); rintro e w2 ⟨rfl, hb2⟩; have hb02 := hb01.trans hb2; have hN2 := hN1.of_bl hb2; clear m0 m1 m2 m3; obtain ⟨m0, m1, m2, m3, -⟩ := hN2.cells) | (go_at_call 6; (with_reducible refine (RS.out _ (hE.of_bl hb02) (hM.of_bl hb02)).mono ?_); rintro e w5 ⟨hb5, va5, vk5, rfl, P5, hA5, hK5, hP5⟩; obtain ⟨a5, c5, rfl, -⟩ := id hA5; obtain ⟨k5, e5, rfl, -⟩ := id hK5; have hb05 := hb02.trans hb5; have hN5 := nb_par w5 m.n m.x a5 m.a.length c5 k5 m.k.length e5; have hb5a := (Bl.refl w5).alloc (.cells #[.string ⟨m.n.toArray⟩, .slice a5 m.a.length c5, .string ⟨m.x.toArray⟩, .slice k5 m.k.length e5] 25); have hb05a := hb05.alloc (.cells #[.string ⟨m.n.toArray⟩, .slice a5 m.a.length c5, .string ⟨m.x.toArray⟩, .slice k5 m.k.length e5] 25)) | (go_at_call 7; (with_reducible refine (PM.out _ _ _ P5 (hA5.still (Still.of_bl hb5a)) (hK5.of_bl hb5a)).mono ?_); rintro e w6 ⟨rfl, hb6⟩; have hb06 := hb05a.trans hb6; have hN6 := hN5.of_bl hb6; obtain ⟨p0, p1, p2, p3, -⟩ := hN6.cells) | (go_at_call 6; (with_reducible refine (RM.out _ (hE.of_bl hb06) (hM.of_bl hb06)).mono ?_); rintro e w7 ⟨hb7, va7, vk7, rfl, P7, hA7, hK7, hP7⟩; obtain ⟨a7, c7, rfl, -⟩ := id hA7; obtain ⟨k7, e7, rfl, -⟩ := id hK7; have hb07 := hb06.trans hb7; have hN7 := hN6.of_bl hb7; clear p0 p1 p2 p3; obtain ⟨p0, p1, p2, p3, -⟩ := hN7.cells; have hl7 := hN7.lt; have hb57 := (hb5a.trans hb6).trans hb7) | (go_at_call 14; (with_reducible refine (sameOne_c m m _ _ _ _ _ hwm rfl ((nds_new2 (o := (.cells #[.string ⟨m.n.toArray⟩, .slice a7 m.a.length c7, .string ⟨m.x.toArray⟩, .slice k7 m.k.length e7] 25)) hA7 hK7).of_bl ((Bl.refl _).alloc (.cells #[.string ⟨m.n.toArray⟩, .slice a5 m.a.length c5, .string ⟨m.x.toArray⟩, .slice k5 m.k.length e5] 25))) (nds_new3 (o := (.cells #[.string ⟨m.n.toArray⟩, .slice a7 m.a.length c7, .string ⟨m.x.toArray⟩, .slice k7 m.k.length e7] 25)) (o2 := (.cells #[.string ⟨m.n.toArray⟩, .slice a7 m.a.length c7, .string ⟨m.x.toArray⟩, .slice k7 m.k.length e7] 25)) (hA5.still (Still.of_bl hb57)) (hK5.of_bl hb57))).mono ?_); rintro e w8 ⟨rfl, hq8⟩))
        go_ret
        exact ⟨rfl, (((hb07.alloc _).alloc _).alloc _).trans hq8.bl⟩
end Go.Proofs.YtkacjnifhmgeiaaGreatDoor

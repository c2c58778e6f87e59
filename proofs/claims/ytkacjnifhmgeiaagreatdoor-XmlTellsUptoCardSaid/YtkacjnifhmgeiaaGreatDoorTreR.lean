/- Trees: SameNodes of the reference. -/
import Derived.Test.YtkacjnifhmgeiaaGreatDoorGrpJ
namespace Go.Proofs.YtkacjnifhmgeiaaGreatDoor
open Go.RowKit

def wtA (l : List Atr) : Nat := (l.map fun a => 1 + a.1.length + a.2.length).sum
mutual
/-- How much nodes weigh. -/
def wtN : Nd → Nat
  | .mk n a x k => 1 + n.length + wtA a + x.length + wtL k
def wtL : List Nd → Nat
  | [] => 0
  | d :: l => wtN d + wtL l
end
theorem wtA_len (l : List Atr) : l.length ≤ wtA l := by
  induction l with
  | nil => simp
  | cons a l ih => simp only [wtA, List.map_cons, List.sum_cons, List.length_cons] at *; omega
theorem wtA_get (l : List Atr) : ∀ a ∈ l, 1 + a.1.length + a.2.length ≤ wtA l := by
  induction l with
  | nil => intro a h; simp at h
  | cons b l ih =>
    intro a h
    simp only [wtA, List.map_cons, List.sum_cons] at *
    rcases List.mem_cons.1 h with rfl | h
    · omega
    · have := ih a h; omega
theorem wt_get : ∀ (l : List Nd) (i : Nat) (h : i < l.length), 1 + l[i].n.length + wtA l[i].a + l[i].x.length + wtL l[i].k ≤ wtL l := by
  intro l
  induction l with
  | nil => intro i h; simp at h
  | cons d l ih =>
    intro i h
    cases d with
    | mk n a x k =>
      cases i with
      | zero => simp only [List.getElem_cons_zero, Nd.n, Nd.a, Nd.x, Nd.k, wtL, wtN]; omega
      | succ i => have := ih i (by simpa using h); simp only [List.getElem_cons_succ, wtL, wtN]; omega
theorem wt_cnt (l : List Nd) : cntL l ≤ wtL l := by
  induction l using Nd.ind with
  | h0 => simp [cntL]
  | h1 n a x k l ik il => simp only [cntL, cntN, wtL, wtN]; omega
theorem Nd.eq4 {a b : Nd} (h1 : a.n = b.n) (h2 : a.x = b.x) (h3 : a.a = b.a) (h4 : a.k = b.k) : a = b := by
  cases a; cases b; simp only [Nd.n, Nd.x, Nd.a, Nd.k] at *; subst h1 h2 h3 h4; rfl
theorem same_no {a b : List Nd} (h : a ≠ b) : sameL a b = false := by
  cases e : sameL a b
  · rfl
  · exact absurd ((sameL_iff a b).1 e) h
theorem same_ne {a b : List Nd} (k : Nat) (h1 : k < a.length) (h2 : k < b.length) (h : a[k] ≠ b[k]) : sameL a b = false := same_no (list_ne k h1 h2 h)
set_option maxRecDepth 100000 in
set_option maxHeartbeats 8000000 in
theorem sameNodes_c (N : Nat) : ∀ (a b : List Nd) (va vb : Value) (P Q : Nat → Prop) (w : World), wtL a < N → N ≤ 1099511627776 → NdS w P va a → NdS w Q vb b →
    Calls Tryz.prog 14 #[va, vb] w fun e w' => e = .returned (.bool (sameL a b)) ∧ Qt w w' := by
  induction N with
  | zero =>
    intro a b va vb P Q w hN _ hA hB
    omega
  | succ N ih =>
    intro a b va vb P Q w hN hN2 hA hB
    obtain ⟨ao, ca, rfl, -, hA⟩ := hA.get
    obtain ⟨bo, cb, rfl, -, hB⟩ := hB.get
    have hl : a.length ≤ 1099511627776 := by have := cnt_len a; have := wt_cnt a; omega
    by_cases hlen : a.length = b.length
    · have hlen' : ((a.length : Int) != (b.length : Int)) = false := by simp [hlen]
      have HL := Lib.hid hlen
      have IH := Lib.hid ih
      have HN := Lib.hid hN
      have hl2 : b.length ≤ 1099511627776 := by omega
      go_enter Tryz.func14, Tryz.ntmps14
      clear hlen ih hN
      go_wp2
      go_loopw [5] (fun i wr => ∃ k : Nat, k ≤ a.length ∧ i = .int .i64 k ∧ Hid (∀ j (h1 : j < a.length) (h2 : j < b.length), j < k → a[j] = b[j]) ∧ Qt w wr) (fun i _ => a.length - (intOf i).toNat)
      case atStart => exact ⟨0, Nat.zero_le _, rfl, Lib.hid (fun j _ _ h => by omega), Qt.refl _⟩
      case round =>
        obtain ⟨k, hk, rfl, HP, hq⟩ := hrel
        by_cases hlt : k < a.length
        · have hltb : k < b.length := by have := HL.out; omega
          have hltb' : (k : Int) < (b.length : Int) := by omega
          obtain ⟨g, o, xa, ka, rfl, hg, -, h1, h2, h3, h4, h5, h6⟩ := hA k hlt
          obtain ⟨g', o', xb, kb, rfl, hg', -, h1', h2', h3', h4', h5', h6'⟩ := hB k hltb
          have y1 := (hq.bl.cells.1 g _ hg).trans h1
          have y2 := (hq.bl.cells.1 g _ hg).trans h2
          have y3 := (hq.bl.cells.1 g _ hg).trans h3
          have y4 := (hq.bl.cells.1 g _ hg).trans h4
          have z1 := (hq.bl.cells.1 g' _ hg').trans h1'
          have z2 := (hq.bl.cells.1 g' _ hg').trans h2'
          have z3 := (hq.bl.cells.1 g' _ hg').trans h3'
          have z4 := (hq.bl.cells.1 g' _ hg').trans h4'
          have hwt := wt_get a k hlt
          have hN3 := HN.out
          have hwa := wtA_len a[k].a
          have SC := Lib.hid (fun W (h : Qt wr W) => sameAttrs_c a[k].a b[k].a xa xb (by omega) W ((h5.ats.of_bl hq.bl).of_bl h.bl) ((h5'.ats.of_bl hq.bl).of_bl h.bl))
          have KC := Lib.hid (fun W (h : Qt wr W) => IH.out a[k].k b[k].k ka kb P Q W (by omega) (by omega) ((h6.of_bl hq.bl).of_bl h.bl) ((h6'.of_bl hq.bl).of_bl h.bl))
          clear h1 h2 h3 h4 h5 h6 h1' h2' h3' h4' h5' h6' hA hB
          have HSN := Lib.hid (fun h => same_ne k hlt hltb h)
          by_cases e1 : a[k].n = b[k].n
          · have f1 : (a[k].n == b[k].n) = true := by simp [e1]
            by_cases e2 : a[k].x = b[k].x
            · have f2 : (a[k].x == b[k].x) = true := by simp [e2]
              by_cases e4 : a[k].a = b[k].a
              · rw [decide_eq_true e4] at SC
                by_cases e5 : a[k].k = b[k].k
                · have HE := Lib.hid (Nd.eq4 e1 e2 e4 e5)
                  rw [(sameL_iff _ _).2 e5] at KC
                  clear e1 e2 e4 e5
                  go_wp2_with (go_quiet (first | (refine quiet_qt (SC.out _ ?_); exact (Qt.refl _).drewN _) | (refine quiet_qt2 (SC.out _ ?_); exact (Qt.refl _).drewN _) | (refine quiet_qt (KC.out _ ?_); exact (Qt.refl _).drewN _) | (refine quiet_qt2 (KC.out _ ?_); exact (Qt.refl _).drewN _)))
                  go_roundw
                  case rel =>
                    refine ⟨k + 1, by omega, by go_num, Lib.hid (fun j h1 h2 hj => ?_), hq.drewN _⟩
                    by_cases e : j = k
                    · subst e; exact HE.out
                    · exact HP.out j h1 h2 (by omega)
                  case measure => simp [intOf]; omega
                · have HE := Lib.hid (HSN.out (fun h => e5 (by rw [h])))
                  rw [same_no e5] at KC
                  clear e1 e2 e4 e5
                  go_wp2_with (go_quiet (first | (refine quiet_qt (SC.out _ ?_); exact (Qt.refl _).drewN _) | (refine quiet_qt2 (SC.out _ ?_); exact (Qt.refl _).drewN _) | (refine quiet_qt (KC.out _ ?_); exact (Qt.refl _).drewN _) | (refine quiet_qt2 (KC.out _ ?_); exact (Qt.refl _).drewN _)))
                  go_ret
                  exact ⟨ret_bool HE.out.symm, hq.drewN _⟩
              · have HE := Lib.hid (HSN.out (fun h => e4 (by rw [h])))
                rw [decide_eq_false e4] at SC
                clear e1 e2 e4
                go_wp2_with (go_quiet (first | (refine quiet_qt (SC.out _ ?_); exact (Qt.refl _).drewN _) | (refine quiet_qt2 (SC.out _ ?_); exact (Qt.refl _).drewN _) | (refine quiet_qt (KC.out _ ?_); exact (Qt.refl _).drewN _) | (refine quiet_qt2 (KC.out _ ?_); exact (Qt.refl _).drewN _)))
                go_ret
                exact ⟨ret_bool HE.out.symm, hq.drewN _⟩
            · have f2 : (a[k].x == b[k].x) = false := by simp [e2]
              have HE := Lib.hid (HSN.out (fun h => e2 (by rw [h])))
              clear e1 e2
              go_wp2_with (go_quiet (first | (refine quiet_qt (SC.out _ ?_); exact (Qt.refl _).drewN _) | (refine quiet_qt2 (SC.out _ ?_); exact (Qt.refl _).drewN _) | (refine quiet_qt (KC.out _ ?_); exact (Qt.refl _).drewN _) | (refine quiet_qt2 (KC.out _ ?_); exact (Qt.refl _).drewN _)))
              go_ret
              exact ⟨ret_bool HE.out.symm, hq.drewN _⟩
          · have f1 : (a[k].n == b[k].n) = false := by simp [e1]
            have HE := Lib.hid (HSN.out (fun h => e1 (by rw [h])))
            clear e1
            go_wp2_with (go_quiet (first | (refine quiet_qt (SC.out _ ?_); exact (Qt.refl _).drewN _) | (refine quiet_qt2 (SC.out _ ?_); exact (Qt.refl _).drewN _) | (refine quiet_qt (KC.out _ ?_); exact (Qt.refl _).drewN _) | (refine quiet_qt2 (KC.out _ ?_); exact (Qt.refl _).drewN _)))
            go_ret
            exact ⟨ret_bool HE.out.symm, hq.drewN _⟩
        · have HE := Lib.hid (show sameL a b = true from (sameL_iff a b).2 (list_eq HL.out (fun j h1 h2 => HP.out j h1 h2 (by omega))))
          go_wp2
          go_ret
          exact ⟨ret_bool HE.out.symm, hq⟩
    · have hlen' : ((a.length : Int) != (b.length : Int)) = true := by simp; omega
      have HL := Lib.hid (same_no (fun h : a = b => hlen (by rw [h])))
      clear hlen
      go_enter Tryz.func14, Tryz.ntmps14
      go_wp2
      go_ret
      exact ⟨ret_bool HL.out.symm, Qt.refl _⟩
end Go.Proofs.YtkacjnifhmgeiaaGreatDoor

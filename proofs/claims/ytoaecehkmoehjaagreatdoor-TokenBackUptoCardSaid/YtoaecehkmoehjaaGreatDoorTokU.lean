/- Tokens: All; Read. -/
import Derived.Test.YtoaecehkmoehjaaGreatDoorTokT
import Derived.Test.YtoaecehkmoehjaaGreatDoorTokS
namespace Go.Proofs.YtoaecehkmoehjaaGreatDoor
open Go.RowKit

theorem tkP_lenT (s : List UInt8) : (TokL s).length ≤ s.length := by
  suffices h : ∀ (k : Nat) (s x : List UInt8) (l : List Tok), s.length ≤ k → (tkF k s x l).length ≤ l.length + (if x = [] then 0 else 1) + s.length by
    have := h s.length s [] [] (Nat.le_refl _)
    simpa [TokL, tkP] using this
  have hfl : ∀ (x : List UInt8) (l : List Tok), (flsh x l).length ≤ l.length + (if x = [] then 0 else 1) := by
    intro x l
    unfold flsh
    by_cases hx : x = []
    · subst hx; simp [Tk_nil]
    · rw [if_neg hx]; split <;> simp
  intro k
  induction k with
  | zero => intro s x l _; have := hfl x l; simp only [tkF]; omega
  | succ k ih =>
    intro s x l hs
    cases s with
    | nil => have := hfl x l; simp only [tkF]; omega
    | cons c r =>
      simp only [List.length_cons, Nat.add_le_add_iff_right] at hs ⊢
      have h01 : (if x = [] then 0 else 1) ≤ 1 := by split <;> omega
      unfold tkF
      split
      · split
        · have := ih r (x ++ [60]) l hs
          rw [if_neg (by simp)] at this; omega
        · have := hfl (x ++ 60 :: r) l
          rw [if_neg (by simp)] at this; omega
        · rename_i u e
          have hl := tagP_len _ _ _ e
          have := ih u x l (by omega); omega
        · rename_i t u e
          have hl := tagP_len _ _ _ e
          split
          · have h1 := ih u [] (flsh x l ++ [t]) (by omega)
            have h2 := hfl x l
            rw [if_pos rfl] at h1
            simp only [List.length_append, List.length_singleton] at h1; omega
          · have := ih u x l (by omega); omega
      · have := ih r (x ++ [c]) l hs
        rw [if_neg (by simp)] at this; omega

theorem own_base {w : World} {B B' : Nat} {e : TypeId} {sz n : Nat} {v : Value} {xs : List Value} (h : w.ownsRow B e sz v n xs) (hB : B' ≤ B) : w.ownsRow B' e sz v n xs := by
  refine ⟨h.1, ?_⟩
  rcases h.2 with hn | ⟨k, cap, cur, rfl, hk, rest⟩
  · exact .inl hn
  · exact .inr ⟨k, cap, cur, rfl, Nat.le_trans hB hk, rest⟩
theorem TkO.base_le {w : World} {B B' : Nat} {v : Value} {l : List Tok} (h : TkO w B v l) (hB : B' ≤ B) : TkO w B' v l := by
  obtain ⟨ents, h1, h2, h3⟩ := h
  exact ⟨ents, h1, own_base h2 hB, fun p hp => (h3 p hp).base_le hB⟩
set_option maxRecDepth 100000 in
set_option maxHeartbeats 4000000 in
theorem all_c (s : List UInt8) (w : World) (hs : s.length ≤ 1000000000) (hE : ES w) (hM : ML w) :
    Calls Tryz.prog 18 #[.string ⟨s.toArray⟩] w fun e w' => ∃ v, e = .returned v ∧ TkO w' w.heap.size v (TokL s) ∧ Bl w w' := by
  have hbE : 1 < w.heap.size := by obtain ⟨_, _, h, _⟩ := hE; exact h
  have hbM : 0 < w.heap.size := by obtain ⟨_, h, _⟩ := hM; exact h
  have hR0 : RT (w.alloc (.cells #[.string ⟨s.toArray⟩, .int .i64 0, .string ⟨#[]⟩, .slice none 0 0] 59)) w.heap.size s s [] [] := by
    refine ⟨.slice none 0 0, ⟨?_, List.suffix_refl _⟩, TkO.nil _ _⟩
    unfold Rk
    rw [heap_alloc_new]
    simp
  go_enter Tryz.func18, Tryz.ntmps18
  go_wp2
  go_loopw [4] (fun _ wr => ∃ (t x : List UInt8) (l : List Tok), Hid (TokL s = tkP t x l) ∧ RT wr w.heap.size s t x l ∧ Bl w wr ∧ x.length + t.length ≤ s.length ∧ l.length + t.length ≤ s.length) (fun _ wr => s.length - atOf w.heap.size wr)
  case atStart => exact ⟨s, [], [], Lib.hid rfl, hR0, (Bl.refl _).alloc _, by simp, by simp⟩
  case round =>
    obtain ⟨t, x, l, HT, hRT, hbl, hxt, hlt⟩ := hrel
    obtain ⟨v, hR, hT⟩ := hRT
    have hln := hR.len
    have hmeas := hR.meas
    obtain ⟨a0, a1, a2, a3, f0, f1, f2, f3⟩ := hR.rk.cells
    have hdr := sfx_drop hR.sf
    obtain ⟨K, hK⟩ : ∃ K, s.length - t.length = K := ⟨_, rfl⟩
    rw [hK] at a1 hdr
    have hE1 := hE.of_bl hbl
    have hM1 := hM.of_bl hbl
    by_cases ht : t = []
    · subst ht
      have hKs : K = s.length := by simpa using hK.symm
      subst hKs
      have FC := Lib.hid (flush_c w.heap.size s [] x l v wr hR hT (by omega) (by omega) hE1)
      have HF := Lib.hid (show TokL s = flsh x l by rw [HT.out, tkP_nil])
      clear hK hdr
      go_wp2_with (go_at_call 41; (with_reducible refine FC.out.mono ?_); clear a0 a1 a2 a3 f0 f1 f2 f3; rintro e w1 ⟨rfl, ⟨v1, hR1, hT1⟩, hF1⟩; obtain ⟨a0, a1, a2, a3, f0, f1, f2, f3⟩ := hR1.rk.cells)
      go_ret
      refine ⟨v1, rfl, ?_, ?_⟩
      · rw [HF.out]; exact hT1.base_le (Nat.le_succ _)
      · exact Below.trans hbl (hF1.below (fun j hj => by have := (hT.lt j hj).1; omega) (Nat.le_of_lt hR.rk.lt))
    · have hKl : (K : Int) < (s.length : Int) := by have := List.length_pos_iff.2 ht; omega
      have TC := Lib.hid (try_c w.heap.size s t x l wr ⟨v, hR, hT⟩ ht (by omega) (by omega) (by omega) hE1 hbE hM1 hbM)
      have HS := Lib.hid (tkP_st t x l ht)
      have HLN := Lib.hid (stP_len t x l ht)
      have HDR := Lib.hid hdr
      have htl := List.length_pos_iff.2 ht
      clear hK hdr ht
      cases hst : stP t x l with
      | none =>
        rw [hst] at TC
        have HF := Lib.hid (show TokL s = flsh (x ++ t) l by rw [HT.out, HS.out, hst])
        clear hst
        have hdl : (List.drop K s).length ≤ t.length := by rw [HDR.out]; exact Nat.le_refl _
        have FC := Lib.hid (fun t1 v1 W h1 h2 h3 => flush_c w.heap.size s t1 (x ++ List.drop K s) l v1 W h1 h2 (by simp only [List.length_append]; omega) (by omega) h3)
        go_wp2_with (first | (go_at_call 40; (with_reducible refine TC.out.mono ?_); clear a0 a1 a2 a3 f0 f1 f2 f3; rintro e w1 ⟨rfl, hB1, t1, v1, hR1, hT1⟩; obtain ⟨a0, a1, a2, a3, f0, f1, f2, f3⟩ := hR1.rk.cells; have hB1' := Below.trans hbl hB1; have hg2 := gb_set (b := w.heap.size) (gb_refl _ w1) 2 (.string ⟨(x ++ List.drop K s).toArray⟩); have hR2 : Rr _ w.heap.size s t1 (x ++ List.drop K s) v1 := ⟨hR1.rk.set2 (x ++ List.drop K s), hR1.sf⟩; have hT2 := hT1.of_gb hg2 (Nat.lt_succ_self _); have hE2 := (hE.of_bl hB1').of_gb hg2 hbE; have hR3 := hR2.of_bl (b0_drew _); have hT3 := hT2.of_bl (b0_drew _); have hE3 := hE2.of_bl (b0_drew _)) | (go_at_call 41; (with_reducible refine (FC.out _ _ _ hR3 hT3 hE3).mono ?_); clear a0 a1 a2 a3 f0 f1 f2 f3; rintro e w4 ⟨rfl, ⟨v4, hR4, hT4⟩, hF4⟩; obtain ⟨a0, a1, a2, a3, f0, f1, f2, f3⟩ := hR4.rk.cells) | go_region_with (fail))
        all_goals
          go_ret
          refine ⟨v4, rfl, ?_, ?_⟩
          · rw [HF.out, ← HDR.out]; exact hT4.base_le (Nat.le_succ _)
          · exact Below.trans (Below.drew (Below.setCell hB1' (Nat.le_refl _) _)) (hF4.below (fun j hj => by have := (hT3.lt j hj).1; omega) (Nat.le_of_lt hR3.rk.lt))
      | some q =>
        obtain ⟨u, x', l'⟩ := q
        rw [hst] at TC
        have HF := Lib.hid (show TokL s = tkP u x' l' by rw [HT.out, HS.out, hst])
        obtain ⟨n1, n2, n3⟩ := HLN.out u x' l' hst
        clear hst
        go_wp2_with (go_at_call 40; (with_reducible refine TC.out.mono ?_); clear a0 a1 a2 a3 f0 f1 f2 f3; rintro e w1 ⟨rfl, hB1, v1, hR1, hT1⟩)
        go_roundw
        case rel => exact ⟨u, x', l', HF, ⟨v1, hR1, hT1⟩, Below.trans hbl hB1, by omega, by omega⟩
        case measure => rw [hmeas, hR1.meas]; exact n1

/-- Own tokens read as tokens. -/
theorem addr_add0 (g i : Nat) : (⟨g, 0, none⟩ : Addr).add i = ⟨g, i, none⟩ := by unfold Addr.add; split <;> simp_all
theorem TkO.tks {w : World} {base : Nat} {v : Value} {l : List Tok} (h : TkO w base v l) : TkS w v l := by
  obtain ⟨ents, rfl, h2, h3⟩ := h
  have h' := h2
  rcases h2.2 with ⟨rfl, h0⟩ | ⟨g, cap, cur, rfl, -, hg, -⟩
  · have : ents = [] := List.eq_nil_of_length_eq_zero h0
    subst this
    exact ⟨none, 0, rfl, fun i hi => absurd hi (by simp)⟩
  · refine ⟨some ⟨g, 0, none⟩, cap, by simp, fun i hi => ?_⟩
    have hi' : i < ents.length := by simpa using hi
    obtain ⟨t1, t2, t3, t4⟩ := tkC_get ents i hi'
    have key := fun j u h => World.ownsRow.cells h' (g := g) rfl j u h
    simp only [addr_add0] at key
    refine ⟨g, 0, ents[i].2, rfl, (Array.getElem?_eq_some_iff.1 hg).1, ?_, ?_, ?_, ?_, ?_, ?_⟩
    · have := key _ _ t1; simpa using this
    · have := key _ _ t2; simpa using this
    · have := key _ _ t3; simpa using this
    · have := key _ _ t4; simpa using this
    · have := (h3 ents[i] (List.getElem_mem hi')).ats; simpa using this
    · have := h3 ents[i] (List.getElem_mem hi')
      rcases this.2 with ⟨e, _⟩ | ⟨g2, cap2, cur2, e, _, _, hc, _⟩
      · exact ⟨none, 0, 0, e, Nat.le_refl _⟩
      · exact ⟨_, _, _, e, hc⟩
def rdT (s : List UInt8) : List Tok := if 3000 < s.length then [] else TokL s
def rdE (s : List UInt8) : Int := if 3000 < s.length then 2 else 0
theorem TkS.nil (w : World) : TkS w (.slice none 0 0) [] := ⟨none, 0, rfl, fun i hi => absurd hi (by simp)⟩
set_option maxHeartbeats 1000000 in
theorem read_c (s : List UInt8) (w : World) (hE : ES w) (hM : ML w) :
    Calls Tryz.prog 7 #[.string ⟨s.toArray⟩] w fun e w' => ∃ v, e = .returned (.tuple #[v, .int .i64 (rdE s)]) ∧ TkS w' v (rdT s) ∧ Bl w w' := by
  by_cases h : 3000 < s.length
  · have h' : (3000 : Int) < (s.length : Int) := by omega
    have HE := Lib.hid (show rdE s = 2 by unfold rdE; rw [if_pos h])
    have HT := Lib.hid (show rdT s = [] by unfold rdT; rw [if_pos h])
    clear h
    go_enter Tryz.func7, Tryz.ntmps7
    go_wp2
    go_ret2
    exact ⟨_, by rw [HE.out]; rfl, by rw [HT.out]; exact TkS.nil _, Bl.refl _⟩
  · have h' : ¬ (3000 : Int) < (s.length : Int) := by omega
    have HE := Lib.hid (show rdE s = 0 by unfold rdE; rw [if_neg h])
    have HT := Lib.hid (show rdT s = TokL s by unfold rdT; rw [if_neg h])
    have AC := Lib.hid (all_c s w (by omega) hE hM)
    clear h
    go_enter Tryz.func7, Tryz.ntmps7
    go_wp2_with (go_at_call 18; (with_reducible refine AC.out.mono ?_); rintro e w1 ⟨v, rfl, hT, hb⟩)
    go_ret2
    exact ⟨v, by rw [HE.out]; rfl, by rw [HT.out]; exact hT.tks, hb⟩
end Go.Proofs.YtoaecehkmoehjaaGreatDoor

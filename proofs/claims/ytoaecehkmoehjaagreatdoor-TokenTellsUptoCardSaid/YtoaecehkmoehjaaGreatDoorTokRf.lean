/- Tokens: the reference: CheckTokens (printed by gen_tokcheck.py). -/
import Derived.Test.YtoaecehkmoehjaaGreatDoorTokRc
import Derived.Test.YtoaecehkmoehjaaGreatDoorTokY
namespace Go.Proofs.YtoaecehkmoehjaaGreatDoor
open Go.RowKit

theorem k_ne {k n : Int} (h : k ≠ n) : (k == n) = false := by simpa using h
set_option maxRecDepth 100000 in
set_option maxHeartbeats 8000000 in
theorem checkTokens_c (l : List Tok) (v : Value) (hS : Sm l) (w : World) (hA : TkS w v l) :
    Calls Tryz.prog 10 #[v] w fun e w' => e = .returned (.int .i64 (ckE l)) ∧ Bl w w' := by
  obtain ⟨ao, c, rfl, hA⟩ := hA
  by_cases h3 : 3000 < l.length
  · have h3' : (3000 : Int) < (l.length : Int) := by omega
    have HE := Lib.hid (show ckE l = 2 by unfold ckE; rw [if_pos h3])
    clear h3
    go_enter Tryz.func10, Tryz.ntmps10
    go_wp2
    go_ret
    exact ⟨by rw [HE.out]; rfl, Bl.refl _⟩
  · have h3' : ¬ (3000 : Int) < (l.length : Int) := by omega
    have hl3 : l.length ≤ 3000 := by omega
    have HC := Lib.hid (show ckE l = tkEF 0 l by unfold ckE; rw [if_neg h3])
    have HS := Lib.hid hS
    clear h3 hS
    go_enter Tryz.func10, Tryz.ntmps10
    go_wp2
    go_loopw [3] (fun i wr => ∃ k : Nat, k ≤ l.length ∧ i = .int .i64 k ∧ Hid (ckE l = tkEF (pk l k) (l.drop k)) ∧ Bl w wr) (fun i _ => l.length - (intOf i).toNat)
    case atStart => exact ⟨0, Nat.zero_le _, rfl, Lib.hid (by rw [HC.out]; rfl), Bl.refl _⟩
    case round =>
      obtain ⟨k, hk, rfl, HP, hbl⟩ := hrel
      by_cases hlt : k < l.length
      · obtain ⟨g, o, va, rfl, hg, h1, h2, h3, h4, h5, h6⟩ := hA k hlt
        obtain ⟨s1, s2, s3, s4⟩ := HS.out l[k] (List.getElem_mem hlt)
        have y1 := (hbl.cells.1 g _ hg).trans h1
        have y2 := (hbl.cells.1 g _ hg).trans h2
        have y3 := (hbl.cells.1 g _ hg).trans h3
        have y4 := (hbl.cells.1 g _ hg).trans h4
        have hgr : g < wr.heap.size := Nat.lt_of_lt_of_le hg (Below.size hbl)
        have NC := Lib.hid (fun W => isName_c l[k].2.1 (by omega) W)
        have AC := Lib.hid (fun W (hb : Bl wr W) => checkAttrs_c l[k].2.2.1 va s2 (fun a ha => (s3 a ha).1) W ((h5.of_bl hbl).of_bl hb))
        obtain ⟨ao', hva⟩ : ∃ x : Option Addr × Nat, va = .slice x.1 l[k].2.2.1.length x.2 := by
          obtain ⟨x, y, e, -⟩ := h5; exact ⟨(x, y), e⟩
        obtain ⟨vo, vc⟩ := ao'
        simp only [] at hva
        subst hva
        have HE := Lib.hid (show ckE l = if tkE l[k] ≠ 0 then tkE l[k] else if l[k].1 = 1 ∧ pk l k = 1 then 4 else tkEF (pk l (k + 1)) (l.drop (k + 1)) by
          rw [HP.out, List.drop_eq_getElem_cons hlt, tkEF_cons, show pk l (k + 1) = l[k].1 by simp [pk, hlt]])
        have hprev : 0 < k → wr.cell? ⟨g, o + (k - 1) * 4, none⟩ = some (.int .i64 (pk l k)) := by
          intro hk0
          obtain ⟨g2, o2, _, e, hg2, x1, _⟩ := hA (k - 1) (by omega)
          cases e
          rw [(hbl.cells.1 g _ hg).trans x1]
          obtain ⟨j, rfl⟩ : ∃ j, k = j + 1 := ⟨k - 1, by omega⟩
          simp [pk, show j < l.length by omega]
        have HPV := Lib.hid hprev
        clear h1 h2 h3 h4 h5 h6 hA s1 s2 s3 s4 hprev HP
        obtain ⟨t, ht⟩ : ∃ t, t = l[k] := ⟨_, rfl⟩
        rw [← ht] at y1 y2 y3 y4 NC AC HE
        have HT := Lib.hid (show (l[k]).1 = t.1 by rw [ht])
        clear ht
        obtain ⟨kd, n, al, x⟩ := t
        simp only [] at y1 y2 y3 y4 NC AC HE HT
        have hAl : al ≠ [] → (0 : Int) < (al.length : Int) := fun h => by have := List.length_pos_iff.2 h; omega
        have HAl := Lib.hid hAl
        clear hAl
        have HK := Lib.hid (fun h => tkE_kind (t := (kd, n, al, x)) h)
        have HF := Lib.hid (fun h h2 => tkE_form (t := (kd, n, al, x)) h h2)
        have HX := Lib.hid (fun h h1 h2 h3 => tkE_text (t := (kd, n, al, x)) h h1 h2 h3)
        have HN := Lib.hid (fun h h1 h2 => tkE_name (t := (kd, n, al, x)) h h1 h2)
        have hkk : 0 < k → (0 : Int) < (k : Int) ∧ ((k : Int) - 1).toNat = k - 1 ∧ (0 : Int) ≤ (k : Int) - 1 ∧ (k : Int) - 1 < (l.length : Int) ∧ k - 1 < l.length := fun h => ⟨by omega, by omega, by omega, by omega, by omega⟩
        have HKK := Lib.hid hkk
        clear hkk
        rcases (show kd < 1 ∨ 3 < kd ∨ kd = 1 ∨ kd = 2 ∨ kd = 3 by omega) with hk1 | hk1 | hk1 | hk1 | hk1
        · have hz := HK.out (Or.inl hk1)
          rw [hz, if_pos (by decide)] at HE
          clear hz
          have hd1 : decide ((1 : Int) ≤ kd) = false := by simp; omega
          clear HK HF HX HN HAl HPV HKK HT
          go_wp2_with (first | (go_at_call 20; refine (between_c _ _ _ _).mono ?_; rintro e w7 ⟨rfl, rfl⟩) | (go_at_call 21; (with_reducible refine (NC.out _).mono ?_); rintro e w7 ⟨rfl, rfl⟩) | (go_at_call 22; (with_reducible refine (AC.out _ ((Bl.refl _).alloc _)).mono ?_); rintro e w8 ⟨rfl, hb8⟩; have x2 := hb8.cells.1 wr.heap.size 0 (by simp); rw [World.cell?_alloc_new] at x2; simp only [List.getElem?_toArray, List.getElem?_cons_zero] at x2))
          go_ret
          exact ⟨by rw [HE.out]; rfl, (hbl.alloc _)⟩
        · have hz := HK.out (Or.inr hk1)
          rw [hz, if_pos (by decide)] at HE
          clear hz
          have hk2 : decide ((1 : Int) ≤ kd) = true := by simp; omega
          have hk3 : decide (kd ≤ (3 : Int)) = false := by simp; omega
          clear HK HF HX HN HAl HPV HKK HT
          go_wp2_with (first | (go_at_call 20; refine (between_c _ _ _ _).mono ?_; rintro e w7 ⟨rfl, rfl⟩) | (go_at_call 21; (with_reducible refine (NC.out _).mono ?_); rintro e w7 ⟨rfl, rfl⟩) | (go_at_call 22; (with_reducible refine (AC.out _ ((Bl.refl _).alloc _)).mono ?_); rintro e w8 ⟨rfl, hb8⟩; have x2 := hb8.cells.1 wr.heap.size 0 (by simp); rw [World.cell?_alloc_new] at x2; simp only [List.getElem?_toArray, List.getElem?_cons_zero] at x2))
          go_ret
          exact ⟨by rw [HE.out]; rfl, (hbl.alloc _)⟩
        · subst hk1
          by_cases h1 : n = []
          · subst h1
            by_cases h2 : al = []
            · subst h2
              by_cases h3 : x = []
              · subst h3
                have hz := HF.out (by simp) (Or.inl ⟨rfl, Or.inr (Or.inr rfl)⟩)
                rw [hz, if_pos (by decide)] at HE
                clear hz
                clear HK HF HX HN HAl HPV HKK HT
                go_wp2_with (first | (go_at_call 20; refine (between_c _ _ _ _).mono ?_; rintro e w7 ⟨rfl, rfl⟩) | (go_at_call 21; (with_reducible refine (NC.out _).mono ?_); rintro e w7 ⟨rfl, rfl⟩) | (go_at_call 22; (with_reducible refine (AC.out _ ((Bl.refl _).alloc _)).mono ?_); rintro e w8 ⟨rfl, hb8⟩; have x2 := hb8.cells.1 wr.heap.size 0 (by simp); rw [World.cell?_alloc_new] at x2; simp only [List.getElem?_toArray, List.getElem?_cons_zero] at x2))
                go_ret
                exact ⟨by rw [HE.out]; rfl, (hbl.alloc _)⟩
              · have hz := HX.out rfl rfl rfl h3
                rw [hz, if_neg (by decide)] at HE
                have hx := emp h3
                clear hz h3
                by_cases hk0 : 0 < k
                · have hp := HPV.out hk0
                  obtain ⟨q1, q2, q3, q4, q5⟩ := HKK.out hk0
                  obtain ⟨p, hpe⟩ : ∃ p, p = pk l k := ⟨_, rfl⟩
                  rw [← hpe] at hp HE
                  have hpa : (wr.alloc (.cells #[.int .i64 1, .string ⟨#[]⟩, .slice vo 0 vc, .string ⟨x.toArray⟩] 37)).cell? ⟨g, o + (k - 1) * 4, none⟩ = some (.int .i64 p) := by rw [World.cell?_alloc_old _ _ _ (by simp; omega)]; exact hp
                  clear HK HF HX HN HAl HPV HKK HT hpe
                  by_cases hpp : p = 1
                  · rw [if_pos ⟨rfl, hpp⟩] at HE
                    have hp' : (p == 1) = true := by simp [hpp]
                    clear hpp
                    go_wp2_with (first | (go_at_call 20; refine (between_c _ _ _ _).mono ?_; rintro e w7 ⟨rfl, rfl⟩) | (go_at_call 21; (with_reducible refine (NC.out _).mono ?_); rintro e w7 ⟨rfl, rfl⟩) | (go_at_call 22; (with_reducible refine (AC.out _ ((Bl.refl _).alloc _)).mono ?_); rintro e w8 ⟨rfl, hb8⟩; have x2 := hb8.cells.1 wr.heap.size 0 (by simp); rw [World.cell?_alloc_new] at x2; simp only [List.getElem?_toArray, List.getElem?_cons_zero] at x2))
                    go_ret
                    exact ⟨by rw [HE.out]; rfl, (hbl.alloc _)⟩
                  · rw [if_neg (fun h => hpp h.2)] at HE
                    have hp' : (p == 1) = false := by simp [hpp]
                    clear hpp
                    go_wp2_with (first | (go_at_call 20; refine (between_c _ _ _ _).mono ?_; rintro e w7 ⟨rfl, rfl⟩) | (go_at_call 21; (with_reducible refine (NC.out _).mono ?_); rintro e w7 ⟨rfl, rfl⟩) | (go_at_call 22; (with_reducible refine (AC.out _ ((Bl.refl _).alloc _)).mono ?_); rintro e w8 ⟨rfl, hb8⟩; have x2 := hb8.cells.1 wr.heap.size 0 (by simp); rw [World.cell?_alloc_new] at x2; simp only [List.getElem?_toArray, List.getElem?_cons_zero] at x2))
                    go_roundw
                    case rel => exact ⟨k + 1, by omega, by go_num, HE, hbl.alloc _⟩
                    case measure => simp [intOf]; omega
                · rw [if_neg (fun h => by obtain rfl : k = 0 := (by omega); exact absurd h.2 (by simp [pk]))] at HE
                  have hki : ¬ (0 : Int) < (k : Int) := by omega
                  clear HK HF HX HN HAl HPV HKK HT
                  go_wp2_with (first | (go_at_call 20; refine (between_c _ _ _ _).mono ?_; rintro e w7 ⟨rfl, rfl⟩) | (go_at_call 21; (with_reducible refine (NC.out _).mono ?_); rintro e w7 ⟨rfl, rfl⟩) | (go_at_call 22; (with_reducible refine (AC.out _ ((Bl.refl _).alloc _)).mono ?_); rintro e w8 ⟨rfl, hb8⟩; have x2 := hb8.cells.1 wr.heap.size 0 (by simp); rw [World.cell?_alloc_new] at x2; simp only [List.getElem?_toArray, List.getElem?_cons_zero] at x2))
                  go_roundw
                  case rel => exact ⟨k + 1, by omega, by go_num, HE, hbl.alloc _⟩
                  case measure => simp [intOf]; omega
            · have hz := HF.out (by simp) (Or.inl ⟨rfl, Or.inr (Or.inl h2)⟩)
              rw [hz, if_pos (by decide)] at HE
              have hal := HAl.out h2
              have hal2 : 0 < al.length := List.length_pos_iff.2 h2
              clear hz
              clear HK HF HX HN HAl HPV HKK HT
              go_wp2_with (first | (go_at_call 20; refine (between_c _ _ _ _).mono ?_; rintro e w7 ⟨rfl, rfl⟩) | (go_at_call 21; (with_reducible refine (NC.out _).mono ?_); rintro e w7 ⟨rfl, rfl⟩) | (go_at_call 22; (with_reducible refine (AC.out _ ((Bl.refl _).alloc _)).mono ?_); rintro e w8 ⟨rfl, hb8⟩; have x2 := hb8.cells.1 wr.heap.size 0 (by simp); rw [World.cell?_alloc_new] at x2; simp only [List.getElem?_toArray, List.getElem?_cons_zero] at x2))
              go_ret
              exact ⟨by rw [HE.out]; rfl, (hbl.alloc _)⟩
          · have hz := HF.out (by simp) (Or.inl ⟨rfl, Or.inl h1⟩)
            rw [hz, if_pos (by decide)] at HE
            have hx := emp h1
            clear hz h1
            clear HK HF HX HN HAl HPV HKK HT
            go_wp2_with (first | (go_at_call 20; refine (between_c _ _ _ _).mono ?_; rintro e w7 ⟨rfl, rfl⟩) | (go_at_call 21; (with_reducible refine (NC.out _).mono ?_); rintro e w7 ⟨rfl, rfl⟩) | (go_at_call 22; (with_reducible refine (AC.out _ ((Bl.refl _).alloc _)).mono ?_); rintro e w8 ⟨rfl, hb8⟩; have x2 := hb8.cells.1 wr.heap.size 0 (by simp); rw [World.cell?_alloc_new] at x2; simp only [List.getElem?_toArray, List.getElem?_cons_zero] at x2))
            go_ret
            exact ⟨by rw [HE.out]; rfl, (hbl.alloc _)⟩
        · subst hk1
          by_cases h3 : x = []
          · subst h3
            cases hN : isNm n
            · rw [hN] at NC
              have hz := HN.out (by simp) rfl (by simp)
              simp only [hN, if_true] at hz
              rw [hz, if_pos (by decide)] at HE
              clear hz hN
              clear HK HF HX HN HAl HPV HKK HT
              go_wp2_with (first | (go_at_call 20; refine (between_c _ _ _ _).mono ?_; rintro e w7 ⟨rfl, rfl⟩) | (go_at_call 21; (with_reducible refine (NC.out _).mono ?_); rintro e w7 ⟨rfl, rfl⟩) | (go_at_call 22; (with_reducible refine (AC.out _ ((Bl.refl _).alloc _)).mono ?_); rintro e w8 ⟨rfl, hb8⟩; have x2 := hb8.cells.1 wr.heap.size 0 (by simp); rw [World.cell?_alloc_new] at x2; simp only [List.getElem?_toArray, List.getElem?_cons_zero] at x2))
              go_ret
              exact ⟨by rw [HE.out]; rfl, (hbl.alloc _)⟩
            · rw [hN] at NC
              have hz := HN.out (by simp) rfl (by simp)
              simp only [hN, Bool.true_eq_false, if_false] at hz
              rw [hz] at HE
              clear hz hN
              obtain ⟨E, hEE⟩ : ∃ E, E = atE al := ⟨_, rfl⟩
              rw [← hEE] at AC HE
              clear hEE HK HF HX HN HAl HPV HKK HT
              by_cases hE0 : E = 0
              · have hne2 : (E != 0) = false := by simp [hE0]
                rw [if_neg (by simp [hE0]), if_neg (by simp)] at HE
                clear hE0
                go_wp2_with (first | (go_at_call 20; refine (between_c _ _ _ _).mono ?_; rintro e w7 ⟨rfl, rfl⟩) | (go_at_call 21; (with_reducible refine (NC.out _).mono ?_); rintro e w7 ⟨rfl, rfl⟩) | (go_at_call 22; (with_reducible refine (AC.out _ ((Bl.refl _).alloc _)).mono ?_); rintro e w8 ⟨rfl, hb8⟩; have x2 := hb8.cells.1 wr.heap.size 0 (by simp); rw [World.cell?_alloc_new] at x2; simp only [List.getElem?_toArray, List.getElem?_cons_zero] at x2))
                all_goals
                  go_roundw
                  case rel => exact ⟨k + 1, by omega, by go_num, HE, (hbl.alloc _).trans hb8⟩
                  case measure => simp [intOf]; omega
              · have hne2 : (E != 0) = true := by simp [hE0]
                rw [if_pos hE0] at HE
                clear hE0
                go_wp2_with (first | (go_at_call 20; refine (between_c _ _ _ _).mono ?_; rintro e w7 ⟨rfl, rfl⟩) | (go_at_call 21; (with_reducible refine (NC.out _).mono ?_); rintro e w7 ⟨rfl, rfl⟩) | (go_at_call 22; (with_reducible refine (AC.out _ ((Bl.refl _).alloc _)).mono ?_); rintro e w8 ⟨rfl, hb8⟩; have x2 := hb8.cells.1 wr.heap.size 0 (by simp); rw [World.cell?_alloc_new] at x2; simp only [List.getElem?_toArray, List.getElem?_cons_zero] at x2))
                go_ret
                exact ⟨by rw [HE.out]; rfl, (hbl.alloc _).trans hb8⟩
          · have hz := HF.out (by simp) (Or.inr (Or.inl ⟨by simp, h3⟩))
            rw [hz, if_pos (by decide)] at HE
            have hx := emp h3
            clear hz h3
            clear HK HF HX HN HAl HPV HKK HT
            go_wp2_with (first | (go_at_call 20; refine (between_c _ _ _ _).mono ?_; rintro e w7 ⟨rfl, rfl⟩) | (go_at_call 21; (with_reducible refine (NC.out _).mono ?_); rintro e w7 ⟨rfl, rfl⟩) | (go_at_call 22; (with_reducible refine (AC.out _ ((Bl.refl _).alloc _)).mono ?_); rintro e w8 ⟨rfl, hb8⟩; have x2 := hb8.cells.1 wr.heap.size 0 (by simp); rw [World.cell?_alloc_new] at x2; simp only [List.getElem?_toArray, List.getElem?_cons_zero] at x2))
            go_ret
            exact ⟨by rw [HE.out]; rfl, (hbl.alloc _)⟩
        · subst hk1
          by_cases h3 : x = []
          · subst h3
            by_cases h2 : al = []
            · subst h2
              simp only [List.length_nil] at AC
              cases hN : isNm n
              · rw [hN] at NC
                have hz := HN.out (by simp) rfl (by simp)
                simp only [hN, if_true] at hz
                rw [hz, if_pos (by decide)] at HE
                clear hz hN
                clear HK HF HX HN HAl HPV HKK HT
                go_wp2_with (first | (go_at_call 20; refine (between_c _ _ _ _).mono ?_; rintro e w7 ⟨rfl, rfl⟩) | (go_at_call 21; (with_reducible refine (NC.out _).mono ?_); rintro e w7 ⟨rfl, rfl⟩) | (go_at_call 22; (with_reducible refine (AC.out _ ((Bl.refl _).alloc _)).mono ?_); rintro e w8 ⟨rfl, hb8⟩; have x2 := hb8.cells.1 wr.heap.size 0 (by simp); rw [World.cell?_alloc_new] at x2; simp only [List.getElem?_toArray, List.getElem?_cons_zero] at x2))
                go_ret
                exact ⟨by rw [HE.out]; rfl, (hbl.alloc _)⟩
              · rw [hN] at NC
                have hz := HN.out (by simp) rfl (by simp)
                simp only [hN, Bool.true_eq_false, if_false] at hz
                rw [hz] at HE
                clear hz hN
                obtain ⟨E, hEE⟩ : ∃ E, E = atE [] := ⟨_, rfl⟩
                rw [← hEE] at AC HE
                clear hEE HK HF HX HN HAl HPV HKK HT
                by_cases hE0 : E = 0
                · have hne2 : (E != 0) = false := by simp [hE0]
                  rw [if_neg (by simp [hE0]), if_neg (by simp)] at HE
                  clear hE0
                  go_wp2_with (first | (go_at_call 20; refine (between_c _ _ _ _).mono ?_; rintro e w7 ⟨rfl, rfl⟩) | (go_at_call 21; (with_reducible refine (NC.out _).mono ?_); rintro e w7 ⟨rfl, rfl⟩) | (go_at_call 22; (with_reducible refine (AC.out _ ((Bl.refl _).alloc _)).mono ?_); rintro e w8 ⟨rfl, hb8⟩; have x2 := hb8.cells.1 wr.heap.size 0 (by simp); rw [World.cell?_alloc_new] at x2; simp only [List.getElem?_toArray, List.getElem?_cons_zero] at x2))
                  all_goals
                    go_roundw
                    case rel => exact ⟨k + 1, by omega, by go_num, HE, (hbl.alloc _).trans hb8⟩
                    case measure => simp [intOf]; omega
                · have hne2 : (E != 0) = true := by simp [hE0]
                  rw [if_pos hE0] at HE
                  clear hE0
                  go_wp2_with (first | (go_at_call 20; refine (between_c _ _ _ _).mono ?_; rintro e w7 ⟨rfl, rfl⟩) | (go_at_call 21; (with_reducible refine (NC.out _).mono ?_); rintro e w7 ⟨rfl, rfl⟩) | (go_at_call 22; (with_reducible refine (AC.out _ ((Bl.refl _).alloc _)).mono ?_); rintro e w8 ⟨rfl, hb8⟩; have x2 := hb8.cells.1 wr.heap.size 0 (by simp); rw [World.cell?_alloc_new] at x2; simp only [List.getElem?_toArray, List.getElem?_cons_zero] at x2))
                  go_ret
                  exact ⟨by rw [HE.out]; rfl, (hbl.alloc _).trans hb8⟩
            · have hz := HF.out (by simp) (Or.inr (Or.inr ⟨rfl, h2⟩))
              rw [hz, if_pos (by decide)] at HE
              have hal := HAl.out h2
              have hal2 : 0 < al.length := List.length_pos_iff.2 h2
              clear hz
              clear HK HF HX HN HAl HPV HKK HT
              go_wp2_with (first | (go_at_call 20; refine (between_c _ _ _ _).mono ?_; rintro e w7 ⟨rfl, rfl⟩) | (go_at_call 21; (with_reducible refine (NC.out _).mono ?_); rintro e w7 ⟨rfl, rfl⟩) | (go_at_call 22; (with_reducible refine (AC.out _ ((Bl.refl _).alloc _)).mono ?_); rintro e w8 ⟨rfl, hb8⟩; have x2 := hb8.cells.1 wr.heap.size 0 (by simp); rw [World.cell?_alloc_new] at x2; simp only [List.getElem?_toArray, List.getElem?_cons_zero] at x2))
              go_ret
              exact ⟨by rw [HE.out]; rfl, (hbl.alloc _)⟩
          · have hz := HF.out (by simp) (Or.inr (Or.inl ⟨by simp, h3⟩))
            rw [hz, if_pos (by decide)] at HE
            have hx := emp h3
            clear hz h3
            clear HK HF HX HN HAl HPV HKK HT
            go_wp2_with (first | (go_at_call 20; refine (between_c _ _ _ _).mono ?_; rintro e w7 ⟨rfl, rfl⟩) | (go_at_call 21; (with_reducible refine (NC.out _).mono ?_); rintro e w7 ⟨rfl, rfl⟩) | (go_at_call 22; (with_reducible refine (AC.out _ ((Bl.refl _).alloc _)).mono ?_); rintro e w8 ⟨rfl, hb8⟩; have x2 := hb8.cells.1 wr.heap.size 0 (by simp); rw [World.cell?_alloc_new] at x2; simp only [List.getElem?_toArray, List.getElem?_cons_zero] at x2))
            go_ret
            exact ⟨by rw [HE.out]; rfl, (hbl.alloc _)⟩
      · have HE := Lib.hid (show ckE l = 0 by rw [HP.out, List.drop_eq_nil_of_le (by omega)]; rfl)
        go_wp2
        go_ret
        exact ⟨by rw [HE.out]; rfl, hbl⟩
end Go.Proofs.YtoaecehkmoehjaaGreatDoor

/- Tokens: the reference: CheckTokens (printed by gen_tokcheck.py). · Trees: the law TreeTells (printed by gen_treetells.py). -/
import Derived.Test.YtjclpmpphkmpdaaGreatDoorGrpQ
import Derived.Test.YtjclpmpphkmpdaaGreatDoorTokY
import Derived.Test.YtjclpmpphkmpdaaGreatDoorGrpR
import Derived.Test.YtjclpmpphkmpdaaGreatDoorTreRh
import Derived.Test.YtjclpmpphkmpdaaGreatDoorTreBk
namespace Go.Proofs.YtjclpmpphkmpdaaGreatDoor
open Go.RowKit

theorem k_ne {k n : Int} (h : k ≠ n) : (k == n) = false := by simpa using h
set_option maxRecDepth 100000 in
set_option maxHeartbeats 8000000 in
theorem checkTokens_c (l : List Tok) (v : Value) (hS : Sm l) (w : World) (hA : TkS w v l) :
    Calls Tryz.prog 6 #[v] w fun e w' => e = .returned (.int .i64 (ckE l)) ∧ Bl w w' := by
  obtain ⟨ao, c, rfl, hA⟩ := hA
  by_cases h3 : 3000 < l.length
  · have h3' : (3000 : Int) < (l.length : Int) := by omega
    have HE := Lib.hid (show ckE l = 2 by unfold ckE; rw [if_pos h3])
    clear h3
    go_enter Tryz.func6, Tryz.ntmps6
    go_wp2
    go_ret
    exact ⟨by rw [HE.out]; rfl, Bl.refl _⟩
  · have h3' : ¬ (3000 : Int) < (l.length : Int) := by omega
    have hl3 : l.length ≤ 3000 := by omega
    have HC := Lib.hid (show ckE l = tkEF 0 l by unfold ckE; rw [if_neg h3])
    have HS := Lib.hid hS
    clear h3 hS
    go_enter Tryz.func6, Tryz.ntmps6
    go_wp2
    go_loopw [3] (fun i wr => ∃ k : Nat, k ≤ l.length ∧ i = .int .i64 k ∧ Hid (ckE l = tkEF (pk l k) (l.drop k)) ∧ Bl w wr) (fun i _ => l.length - (intOf i).toNat)
    case atStart => exact ⟨0, Nat.zero_le _, rfl, Lib.hid (by rw [HC.out]; rfl), Bl.refl _⟩
    case round =>
      obtain ⟨k, hk, rfl, HP, hbl⟩ := hrel
      by_cases hlt : k < l.length
      · obtain ⟨g, o, va, rfl, hg, h1, h2, h3, h4, h5, h6⟩ := hA k hlt
        obtain ⟨s1, s2, s3, s4⟩ := HS.out l[k] (List.getElem_mem hlt)
        have y1 := (hbl.cells.1 g _ hg).trans h1
        have y2 := (hbl.cells.1 g _ hg).trans h2
        have y3 := (hbl.cells.1 g _ hg).trans h3
        have y4 := (hbl.cells.1 g _ hg).trans h4
        have hgr : g < wr.heap.size := Nat.lt_of_lt_of_le hg (Below.size hbl)
        have NC := Lib.hid (fun W => isName_c l[k].2.1 (by omega) W)
        have AC := Lib.hid (fun W (hb : Bl wr W) => checkAttrs_c l[k].2.2.1 va s2 (fun a ha => (s3 a ha).1) W ((h5.of_bl hbl).of_bl hb))
        obtain ⟨ao', hva⟩ : ∃ x : Option Addr × Nat, va = .slice x.1 l[k].2.2.1.length x.2 := by
          obtain ⟨x, y, e, -⟩ := h5; exact ⟨(x, y), e⟩
        obtain ⟨vo, vc⟩ := ao'
        simp only [] at hva
        subst hva
        have HE := Lib.hid (show ckE l = if tkE l[k] ≠ 0 then tkE l[k] else if l[k].1 = 1 ∧ pk l k = 1 then 4 else tkEF (pk l (k + 1)) (l.drop (k + 1)) by
          rw [HP.out, List.drop_eq_getElem_cons hlt, tkEF_cons, show pk l (k + 1) = l[k].1 by simp [pk, hlt]])
        have hprev : 0 < k → wr.cell? ⟨g, o + (k - 1) * 4, none⟩ = some (.int .i64 (pk l k)) := by
          intro hk0
          obtain ⟨g2, o2, _, e, hg2, x1, _⟩ := hA (k - 1) (by omega)
          cases e
          rw [(hbl.cells.1 g _ hg).trans x1]
          obtain ⟨j, rfl⟩ : ∃ j, k = j + 1 := ⟨k - 1, by omega⟩
          simp [pk, show j < l.length by omega]
        have HPV := Lib.hid hprev
        clear h1 h2 h3 h4 h5 h6 hA s1 s2 s3 s4 hprev HP
        obtain ⟨t, ht⟩ : ∃ t, t = l[k] := ⟨_, rfl⟩
        rw [← ht] at y1 y2 y3 y4 NC AC HE
        have HT := Lib.hid (show (l[k]).1 = t.1 by rw [ht])
        clear ht
        obtain ⟨kd, n, al, x⟩ := t
        simp only [] at y1 y2 y3 y4 NC AC HE HT
        have hAl : al ≠ [] → (0 : Int) < (al.length : Int) := fun h => by have := List.length_pos_iff.2 h; omega
        have HAl := Lib.hid hAl
        clear hAl
        have HK := Lib.hid (fun h => tkE_kind (t := (kd, n, al, x)) h)
        have HF := Lib.hid (fun h h2 => tkE_form (t := (kd, n, al, x)) h h2)
        have HX := Lib.hid (fun h h1 h2 h3 => tkE_text (t := (kd, n, al, x)) h h1 h2 h3)
        have HN := Lib.hid (fun h h1 h2 => tkE_name (t := (kd, n, al, x)) h h1 h2)
        have hkk : 0 < k → (0 : Int) < (k : Int) ∧ ((k : Int) - 1).toNat = k - 1 ∧ (0 : Int) ≤ (k : Int) - 1 ∧ (k : Int) - 1 < (l.length : Int) ∧ k - 1 < l.length := fun h => ⟨by omega, by omega, by omega, by omega, by omega⟩
        have HKK := Lib.hid hkk
        clear hkk
        rcases (show kd < 1 ∨ 3 < kd ∨ kd = 1 ∨ kd = 2 ∨ kd = 3 by omega) with hk1 | hk1 | hk1 | hk1 | hk1
        · have hz := HK.out (Or.inl hk1)
          rw [hz, if_pos (by decide)] at HE
          clear hz
          have hd1 : decide ((1 : Int) ≤ kd) = false := by simp; omega
          clear HK HF HX HN HAl HPV HKK HT
          go_wp2_with (first | (go_at_call 18; refine (between_c _ _ _ _).mono ?_; rintro e w7 ⟨rfl, rfl⟩) | (go_at_call 19; (with_reducible refine (NC.out _).mono ?_); rintro e w7 ⟨rfl, rfl⟩) | (go_at_call 20; (with_reducible refine (AC.out _ ((Bl.refl _).alloc _)).mono ?_); rintro e w8 ⟨rfl, hb8⟩; have x2 := hb8.cells.1 wr.heap.size 0 (by simp); rw [World.cell?_alloc_new] at x2; simp only [List.getElem?_toArray, List.getElem?_cons_zero] at x2))
          go_ret
          exact ⟨by rw [HE.out]; rfl, (hbl.alloc _)⟩
        · have hz := HK.out (Or.inr hk1)
          rw [hz, if_pos (by decide)] at HE
          clear hz
          have hk2 : decide ((1 : Int) ≤ kd) = true := by simp; omega
          have hk3 : decide (kd ≤ (3 : Int)) = false := by simp; omega
          clear HK HF HX HN HAl HPV HKK HT
          go_wp2_with (first | (go_at_call 18; refine (between_c _ _ _ _).mono ?_; rintro e w7 ⟨rfl, rfl⟩) | (go_at_call 19; (with_reducible refine (NC.out _).mono ?_); rintro e w7 ⟨rfl, rfl⟩) | (go_at_call 20; (with_reducible refine (AC.out _ ((Bl.refl _).alloc _)).mono ?_); rintro e w8 ⟨rfl, hb8⟩; have x2 := hb8.cells.1 wr.heap.size 0 (by simp); rw [World.cell?_alloc_new] at x2; simp only [List.getElem?_toArray, List.getElem?_cons_zero] at x2))
          go_ret
          exact ⟨by rw [HE.out]; rfl, (hbl.alloc _)⟩
        · subst hk1
          by_cases h1 : n = []
          · subst h1
            by_cases h2 : al = []
            · subst h2
              by_cases h3 : x = []
              · subst h3
                have hz := HF.out (by simp) (Or.inl ⟨rfl, Or.inr (Or.inr rfl)⟩)
                rw [hz, if_pos (by decide)] at HE
                clear hz
                clear HK HF HX HN HAl HPV HKK HT
                go_wp2_with (first | (go_at_call 18; refine (between_c _ _ _ _).mono ?_; rintro e w7 ⟨rfl, rfl⟩) | (go_at_call 19; (with_reducible refine (NC.out _).mono ?_); rintro e w7 ⟨rfl, rfl⟩) | (go_at_call 20; (with_reducible refine (AC.out _ ((Bl.refl _).alloc _)).mono ?_); rintro e w8 ⟨rfl, hb8⟩; have x2 := hb8.cells.1 wr.heap.size 0 (by simp); rw [World.cell?_alloc_new] at x2; simp only [List.getElem?_toArray, List.getElem?_cons_zero] at x2))
                go_ret
                exact ⟨by rw [HE.out]; rfl, (hbl.alloc _)⟩
              · have hz := HX.out rfl rfl rfl h3
                rw [hz, if_neg (by decide)] at HE
                have hx := emp h3
                clear hz h3
                by_cases hk0 : 0 < k
                · have hp := HPV.out hk0
                  obtain ⟨q1, q2, q3, q4, q5⟩ := HKK.out hk0
                  obtain ⟨p, hpe⟩ : ∃ p, p = pk l k := ⟨_, rfl⟩
                  rw [← hpe] at hp HE
                  have hpa : (wr.alloc (.cells #[.int .i64 1, .string ⟨#[]⟩, .slice vo 0 vc, .string ⟨x.toArray⟩] 41)).cell? ⟨g, o + (k - 1) * 4, none⟩ = some (.int .i64 p) := by rw [World.cell?_alloc_old _ _ _ (by simp; omega)]; exact hp
                  clear HK HF HX HN HAl HPV HKK HT hpe
                  by_cases hpp : p = 1
                  · rw [if_pos ⟨rfl, hpp⟩] at HE
                    have hp' : (p == 1) = true := by simp [hpp]
                    clear hpp
                    go_wp2_with (first | (go_at_call 18; refine (between_c _ _ _ _).mono ?_; rintro e w7 ⟨rfl, rfl⟩) | (go_at_call 19; (with_reducible refine (NC.out _).mono ?_); rintro e w7 ⟨rfl, rfl⟩) | (go_at_call 20; (with_reducible refine (AC.out _ ((Bl.refl _).alloc _)).mono ?_); rintro e w8 ⟨rfl, hb8⟩; have x2 := hb8.cells.1 wr.heap.size 0 (by simp); rw [World.cell?_alloc_new] at x2; simp only [List.getElem?_toArray, List.getElem?_cons_zero] at x2))
                    go_ret
                    exact ⟨by rw [HE.out]; rfl, (hbl.alloc _)⟩
                  · rw [if_neg (fun h => hpp h.2)] at HE
                    have hp' : (p == 1) = false := by simp [hpp]
                    clear hpp
                    go_wp2_with (first | (go_at_call 18; refine (between_c _ _ _ _).mono ?_; rintro e w7 ⟨rfl, rfl⟩) | (go_at_call 19; (with_reducible refine (NC.out _).mono ?_); rintro e w7 ⟨rfl, rfl⟩) | (go_at_call 20; (with_reducible refine (AC.out _ ((Bl.refl _).alloc _)).mono ?_); rintro e w8 ⟨rfl, hb8⟩; have x2 := hb8.cells.1 wr.heap.size 0 (by simp); rw [World.cell?_alloc_new] at x2; simp only [List.getElem?_toArray, List.getElem?_cons_zero] at x2))
                    go_roundw
                    case rel => exact ⟨k + 1, by omega, by go_num, HE, hbl.alloc _⟩
                    case measure => simp [intOf]; omega
                · rw [if_neg (fun h => by obtain rfl : k = 0 := (by omega); exact absurd h.2 (by simp [pk]))] at HE
                  have hki : ¬ (0 : Int) < (k : Int) := by omega
                  clear HK HF HX HN HAl HPV HKK HT
                  go_wp2_with (first | (go_at_call 18; refine (between_c _ _ _ _).mono ?_; rintro e w7 ⟨rfl, rfl⟩) | (go_at_call 19; (with_reducible refine (NC.out _).mono ?_); rintro e w7 ⟨rfl, rfl⟩) | (go_at_call 20; (with_reducible refine (AC.out _ ((Bl.refl _).alloc _)).mono ?_); rintro e w8 ⟨rfl, hb8⟩; have x2 := hb8.cells.1 wr.heap.size 0 (by simp); rw [World.cell?_alloc_new] at x2; simp only [List.getElem?_toArray, List.getElem?_cons_zero] at x2))
                  go_roundw
                  case rel => exact ⟨k + 1, by omega, by go_num, HE, hbl.alloc _⟩
                  case measure => simp [intOf]; omega
            · have hz := HF.out (by simp) (Or.inl ⟨rfl, Or.inr (Or.inl h2)⟩)
              rw [hz, if_pos (by decide)] at HE
              have hal := HAl.out h2
              have hal2 : 0 < al.length := List.length_pos_iff.2 h2
              clear hz
              clear HK HF HX HN HAl HPV HKK HT
              go_wp2_with (first | (go_at_call 18; refine (between_c _ _ _ _).mono ?_; rintro e w7 ⟨rfl, rfl⟩) | (go_at_call 19; (with_reducible refine (NC.out _).mono ?_); rintro e w7 ⟨rfl, rfl⟩) | (go_at_call 20; (with_reducible refine (AC.out _ ((Bl.refl _).alloc _)).mono ?_); rintro e w8 ⟨rfl, hb8⟩; have x2 := hb8.cells.1 wr.heap.size 0 (by simp); rw [World.cell?_alloc_new] at x2; simp only [List.getElem?_toArray, List.getElem?_cons_zero] at x2))
              go_ret
              exact ⟨by rw [HE.out]; rfl, (hbl.alloc _)⟩
          · have hz := HF.out (by simp) (Or.inl ⟨rfl, Or.inl h1⟩)
            rw [hz, if_pos (by decide)] at HE
            have hx := emp h1
            clear hz h1
            clear HK HF HX HN HAl HPV HKK HT
            go_wp2_with (first | (go_at_call 18; refine (between_c _ _ _ _).mono ?_; rintro e w7 ⟨rfl, rfl⟩) | (go_at_call 19; (with_reducible refine (NC.out _).mono ?_); rintro e w7 ⟨rfl, rfl⟩) | (go_at_call 20; (with_reducible refine (AC.out _ ((Bl.refl _).alloc _)).mono ?_); rintro e w8 ⟨rfl, hb8⟩; have x2 := hb8.cells.1 wr.heap.size 0 (by simp); rw [World.cell?_alloc_new] at x2; simp only [List.getElem?_toArray, List.getElem?_cons_zero] at x2))
            go_ret
            exact ⟨by rw [HE.out]; rfl, (hbl.alloc _)⟩
        · subst hk1
          by_cases h3 : x = []
          · subst h3
            cases hN : isNm n
            · rw [hN] at NC
              have hz := HN.out (by simp) rfl (by simp)
              simp only [hN, if_true] at hz
              rw [hz, if_pos (by decide)] at HE
              clear hz hN
              clear HK HF HX HN HAl HPV HKK HT
              go_wp2_with (first | (go_at_call 18; refine (between_c _ _ _ _).mono ?_; rintro e w7 ⟨rfl, rfl⟩) | (go_at_call 19; (with_reducible refine (NC.out _).mono ?_); rintro e w7 ⟨rfl, rfl⟩) | (go_at_call 20; (with_reducible refine (AC.out _ ((Bl.refl _).alloc _)).mono ?_); rintro e w8 ⟨rfl, hb8⟩; have x2 := hb8.cells.1 wr.heap.size 0 (by simp); rw [World.cell?_alloc_new] at x2; simp only [List.getElem?_toArray, List.getElem?_cons_zero] at x2))
              go_ret
              exact ⟨by rw [HE.out]; rfl, (hbl.alloc _)⟩
            · rw [hN] at NC
              have hz := HN.out (by simp) rfl (by simp)
              simp only [hN, Bool.true_eq_false, if_false] at hz
              rw [hz] at HE
              clear hz hN
              obtain ⟨E, hEE⟩ : ∃ E, E = atE al := ⟨_, rfl⟩
              rw [← hEE] at AC HE
              clear hEE HK HF HX HN HAl HPV HKK HT
              by_cases hE0 : E = 0
              · have hne2 : (E != 0) = false := by simp [hE0]
                rw [if_neg (by simp [hE0]), if_neg (by simp)] at HE
                clear hE0
                go_wp2_with (first | (go_at_call 18; refine (between_c _ _ _ _).mono ?_; rintro e w7 ⟨rfl, rfl⟩) | (go_at_call 19; (with_reducible refine (NC.out _).mono ?_); rintro e w7 ⟨rfl, rfl⟩) | (go_at_call 20; (with_reducible refine (AC.out _ ((Bl.refl _).alloc _)).mono ?_); rintro e w8 ⟨rfl, hb8⟩; have x2 := hb8.cells.1 wr.heap.size 0 (by simp); rw [World.cell?_alloc_new] at x2; simp only [List.getElem?_toArray, List.getElem?_cons_zero] at x2))
                all_goals
                  go_roundw
                  case rel => exact ⟨k + 1, by omega, by go_num, HE, (hbl.alloc _).trans hb8⟩
                  case measure => simp [intOf]; omega
              · have hne2 : (E != 0) = true := by simp [hE0]
                rw [if_pos hE0] at HE
                clear hE0
                go_wp2_with (first | (go_at_call 18; refine (between_c _ _ _ _).mono ?_; rintro e w7 ⟨rfl, rfl⟩) | (go_at_call 19; (with_reducible refine (NC.out _).mono ?_); rintro e w7 ⟨rfl, rfl⟩) | (go_at_call 20; (with_reducible refine (AC.out _ ((Bl.refl _).alloc _)).mono ?_); rintro e w8 ⟨rfl, hb8⟩; have x2 := hb8.cells.1 wr.heap.size 0 (by simp); rw [World.cell?_alloc_new] at x2; simp only [List.getElem?_toArray, List.getElem?_cons_zero] at x2))
                go_ret
                exact ⟨by rw [HE.out]; rfl, (hbl.alloc _).trans hb8⟩
          · have hz := HF.out (by simp) (Or.inr (Or.inl ⟨by simp, h3⟩))
            rw [hz, if_pos (by decide)] at HE
            have hx := emp h3
            clear hz h3
            clear HK HF HX HN HAl HPV HKK HT
            go_wp2_with (first | (go_at_call 18; refine (between_c _ _ _ _).mono ?_; rintro e w7 ⟨rfl, rfl⟩) | (go_at_call 19; (with_reducible refine (NC.out _).mono ?_); rintro e w7 ⟨rfl, rfl⟩) | (go_at_call 20; (with_reducible refine (AC.out _ ((Bl.refl _).alloc _)).mono ?_); rintro e w8 ⟨rfl, hb8⟩; have x2 := hb8.cells.1 wr.heap.size 0 (by simp); rw [World.cell?_alloc_new] at x2; simp only [List.getElem?_toArray, List.getElem?_cons_zero] at x2))
            go_ret
            exact ⟨by rw [HE.out]; rfl, (hbl.alloc _)⟩
        · subst hk1
          by_cases h3 : x = []
          · subst h3
            by_cases h2 : al = []
            · subst h2
              simp only [List.length_nil] at AC
              cases hN : isNm n
              · rw [hN] at NC
                have hz := HN.out (by simp) rfl (by simp)
                simp only [hN, if_true] at hz
                rw [hz, if_pos (by decide)] at HE
                clear hz hN
                clear HK HF HX HN HAl HPV HKK HT
                go_wp2_with (first | (go_at_call 18; refine (between_c _ _ _ _).mono ?_; rintro e w7 ⟨rfl, rfl⟩) | (go_at_call 19; (with_reducible refine (NC.out _).mono ?_); rintro e w7 ⟨rfl, rfl⟩) | (go_at_call 20; (with_reducible refine (AC.out _ ((Bl.refl _).alloc _)).mono ?_); rintro e w8 ⟨rfl, hb8⟩; have x2 := hb8.cells.1 wr.heap.size 0 (by simp); rw [World.cell?_alloc_new] at x2; simp only [List.getElem?_toArray, List.getElem?_cons_zero] at x2))
                go_ret
                exact ⟨by rw [HE.out]; rfl, (hbl.alloc _)⟩
              · rw [hN] at NC
                have hz := HN.out (by simp) rfl (by simp)
                simp only [hN, Bool.true_eq_false, if_false] at hz
                rw [hz] at HE
                clear hz hN
                obtain ⟨E, hEE⟩ : ∃ E, E = atE [] := ⟨_, rfl⟩
                rw [← hEE] at AC HE
                clear hEE HK HF HX HN HAl HPV HKK HT
                by_cases hE0 : E = 0
                · have hne2 : (E != 0) = false := by simp [hE0]
                  rw [if_neg (by simp [hE0]), if_neg (by simp)] at HE
                  clear hE0
                  go_wp2_with (first | (go_at_call 18; refine (between_c _ _ _ _).mono ?_; rintro e w7 ⟨rfl, rfl⟩) | (go_at_call 19; (with_reducible refine (NC.out _).mono ?_); rintro e w7 ⟨rfl, rfl⟩) | (go_at_call 20; (with_reducible refine (AC.out _ ((Bl.refl _).alloc _)).mono ?_); rintro e w8 ⟨rfl, hb8⟩; have x2 := hb8.cells.1 wr.heap.size 0 (by simp); rw [World.cell?_alloc_new] at x2; simp only [List.getElem?_toArray, List.getElem?_cons_zero] at x2))
                  all_goals
                    go_roundw
                    case rel => exact ⟨k + 1, by omega, by go_num, HE, (hbl.alloc _).trans hb8⟩
                    case measure => simp [intOf]; omega
                · have hne2 : (E != 0) = true := by simp [hE0]
                  rw [if_pos hE0] at HE
                  clear hE0
                  go_wp2_with (first | (go_at_call 18; refine (between_c _ _ _ _).mono ?_; rintro e w7 ⟨rfl, rfl⟩) | (go_at_call 19; (with_reducible refine (NC.out _).mono ?_); rintro e w7 ⟨rfl, rfl⟩) | (go_at_call 20; (with_reducible refine (AC.out _ ((Bl.refl _).alloc _)).mono ?_); rintro e w8 ⟨rfl, hb8⟩; have x2 := hb8.cells.1 wr.heap.size 0 (by simp); rw [World.cell?_alloc_new] at x2; simp only [List.getElem?_toArray, List.getElem?_cons_zero] at x2))
                  go_ret
                  exact ⟨by rw [HE.out]; rfl, (hbl.alloc _).trans hb8⟩
            · have hz := HF.out (by simp) (Or.inr (Or.inr ⟨rfl, h2⟩))
              rw [hz, if_pos (by decide)] at HE
              have hal := HAl.out h2
              have hal2 : 0 < al.length := List.length_pos_iff.2 h2
              clear hz
              clear HK HF HX HN HAl HPV HKK HT
              go_wp2_with (first | (go_at_call 18; refine (between_c _ _ _ _).mono ?_; rintro e w7 ⟨rfl, rfl⟩) | (go_at_call 19; (with_reducible refine (NC.out _).mono ?_); rintro e w7 ⟨rfl, rfl⟩) | (go_at_call 20; (with_reducible refine (AC.out _ ((Bl.refl _).alloc _)).mono ?_); rintro e w8 ⟨rfl, hb8⟩; have x2 := hb8.cells.1 wr.heap.size 0 (by simp); rw [World.cell?_alloc_new] at x2; simp only [List.getElem?_toArray, List.getElem?_cons_zero] at x2))
              go_ret
              exact ⟨by rw [HE.out]; rfl, (hbl.alloc _)⟩
          · have hz := HF.out (by simp) (Or.inr (Or.inl ⟨by simp, h3⟩))
            rw [hz, if_pos (by decide)] at HE
            have hx := emp h3
            clear hz h3
            clear HK HF HX HN HAl HPV HKK HT
            go_wp2_with (first | (go_at_call 18; refine (between_c _ _ _ _).mono ?_; rintro e w7 ⟨rfl, rfl⟩) | (go_at_call 19; (with_reducible refine (NC.out _).mono ?_); rintro e w7 ⟨rfl, rfl⟩) | (go_at_call 20; (with_reducible refine (AC.out _ ((Bl.refl _).alloc _)).mono ?_); rintro e w8 ⟨rfl, hb8⟩; have x2 := hb8.cells.1 wr.heap.size 0 (by simp); rw [World.cell?_alloc_new] at x2; simp only [List.getElem?_toArray, List.getElem?_cons_zero] at x2))
            go_ret
            exact ⟨by rw [HE.out]; rfl, (hbl.alloc _)⟩
      · have HE := Lib.hid (show ckE l = 0 by rw [HP.out, List.drop_eq_nil_of_le (by omega)]; rfl)
        go_wp2
        go_ret
        exact ⟨by rw [HE.out]; rfl, hbl⟩
end Go.Proofs.YtjclpmpphkmpdaaGreatDoor

namespace Go.Proofs.YtjclpmpphkmpdaaGreatDoor
open Go.RowKit

theorem buildOf_ok (l : List Tok) (v : Value) (hz : szT l ≤ 9000000) (h0 : ckE l = 0) (W : World) (hT : TkS W v l) :
    Calls Tryz.prog 8 #[v, .int .i64 0, .slice none 0 0] W fun e w' => ∃ v' i j, e = .returned (.tuple #[v', .int .i64 i, .int .i64 j]) ∧ (∃ Q, NdS w' Q v' (ofM l)) ∧ Bl W w' := by
  have hl := szT_len l
  have r := buildOf_c l v 9000000 (by omega) (l.length + 1) 0 [] (.slice none 0 0) W (by omega) (by omega) (by simp) (by simpa using hz) (by omega) hT ⟨none, 0, rfl, Nat.le_refl _, fun i hi => absurd hi (by simp)⟩
  refine r.mono fun e w' ⟨v', he, ⟨Q, hN, _⟩, hb⟩ => ⟨v', _, _, he, ⟨Q, ?_⟩, hb⟩
  rw [List.drop_zero, bl_ofM l (ckE_tok h0)] at hN
  exact hN
theorem build_nil (l : List Tok) (v : Value) (hz : szT l ≤ 100000000) (h0 : ckE l ≠ 0) (W : World) (hT : TkS W v l) :
    Calls Tryz.prog 4 #[v] W fun e w' => ∃ v', e = .returned (.tuple #[v', .int .i64 (ckE l)]) ∧ (∃ Q, NdS w' Q v' []) ∧ Bl W w' := by
  have r := build_c l v W hT (Sm_of l (by omega)) (by have := txB_sz l; omega) (fun t ht => by have := szT_at l t ht; omega)
  rw [show bdT l = [] by unfold bdT; rw [if_neg h0]] at r
  exact r
theorem flat_nil (t : List Nd) (v : Value) (P : Nat → Prop) (hw : wtL t ≤ 9000000) (h0 : ckT t ≠ 0) (W : World) (hN : NdS W P v t) :
    Calls Tryz.prog 5 #[v] W fun e w' => ∃ v', e = .returned (.tuple #[v', .int .i64 (ckT t)]) ∧ TkS w' v' [] ∧ Bl W w' := by
  have r := flat_c t v P W hw hN
  rw [show flT t = [] by unfold flT; rw [if_neg h0]] at r
  exact r
theorem flat_tk (t : List Nd) (v : Value) (P : Nat → Prop) (hw : wtL t ≤ 9000000) (h0 : ckT t = 0) (W : World) (hN : NdS W P v t) :
    Calls Tryz.prog 5 #[v] W fun e w' => ∃ v', e = .returned (.tuple #[v', .int .i64 0]) ∧ TkS w' v' (fltL t) ∧ Bl W w' := by
  have r := flat_c t v P W hw hN
  rw [show flT t = fltL t by unfold flT; rw [if_pos h0], h0] at r
  exact r
theorem flatOf_tk (t : List Nd) (v : Value) (P : Nat → Prop) (hw : wtL t ≤ 9000000) (W : World) (hN : NdS W P v t) :
    Calls Tryz.prog 9 #[v] W fun e w' => ∃ v', e = .returned v' ∧ TkS w' v' (fltL t) ∧ Bl W w' :=
  (flatOf_c 9500000 t v P W (by omega) (by omega) hN).mono fun e w' ⟨v', he, hT, hb⟩ => ⟨v', he, hT.tks, hb⟩
theorem sameTk (l : List Tok) (h : szT l ≤ 100000000) (va vb : Value) (w : World) (hA : TkS w va l) (hB : TkS w vb l) :
    Calls Tryz.prog 14 #[va, vb] w fun e w' => e = .returned (.bool true) ∧ Qt w w' :=
  same_self l (by have := szT_len l; omega) (fun t ht => by have := szT_at l t ht; omega) va vb w hA hB
set_option maxRecDepth 100000 in
set_option maxHeartbeats 4000000 in
theorem treeTells_11 (l : List Tok) (t : List Nd) (v vt : Value) (P : Nat → Prop) (hz : szT l ≤ 9000000) (hw : wtL t ≤ 9000000) (h0 : ckE l = 0) (k0 : ckT t = 0) (w : World) (hE : ES w) (hM : ML w) (hl : TkS w v l) (ht : NdS w P vt t) :
    Calls Tryz.prog 3 #[v, vt] w fun e w' => e = .returned (.bool true) ∧ Bl w w' := by
  have GC := Lib.hid (fun W h m => treeBegun_c W h m)
  have KC := Lib.hid (fun W h m => tokenBegun_c W h m)
  have hzt := sz_flt t
  have hwm := Nat.le_trans (wt_ofM l) hz
  have CT := Lib.hid (fun W (hb : Bl w W) => checkTokens_c l v (Sm_of l (by omega)) W (hl.of_bl hb))
  have CR := Lib.hid (fun W (hb : Bl w W) => checkTree_c t vt P W hw (ht.of_bl hb))
  have CC := Lib.hid (fun W (hb : Bl w W) => check_t t vt P W hw (ht.of_bl hb))
  have BC := Lib.hid (fun W (hb : Bl w W) => build_ok l v (by omega) h0 W (hl.of_bl hb))
  have BO := Lib.hid (fun W (hb : Bl w W) => buildOf_ok l v hz h0 W (hl.of_bl hb))
  have NA := Lib.hid (fun va vb Q R W (ha : NdS W Q va (ofM l)) (hb : NdS W R vb (ofM l)) => (show Calls Tryz.prog 13 #[va, .int .i64 0, .int .i64 0, vb] W (fun e w' => e = .returned (.bool true) ∧ Qt W w') from by have r := nodesAre_ok (ofM l) (ofM l) 0 va vb Q R W hwm ha hb; rw [sameL_self] at r; exact r))
  rw [h0] at CT
  have FC := Lib.hid (fun W (hb : Bl w W) => flat_tk t vt P hw k0 W (ht.of_bl hb))
  have FO := Lib.hid (fun W (hb : Bl w W) => flatOf_tk t vt P hw W (ht.of_bl hb))
  have ST := Lib.hid (fun va vb W (ha : TkS W va (fltL t)) (hb : TkS W vb (fltL t)) => sameTk (fltL t) (by omega) va vb W ha hb)
  rw [k0] at CR CC
  clear hz hw hzt hwm ht hl h0 k0
  go_enter Tryz.func3, Tryz.ntmps3
  go_wp2_with (first
    | (go_at_call 4; (with_reducible refine (BC.out _ (Bl.refl _)).mono ?_); clear BC; rintro e w1 ⟨v1, rfl, ⟨Q1, hN1⟩, hb1⟩)
    | (go_at_call 5; (with_reducible refine (FC.out _ hb1).mono ?_); clear FC; rintro e w2 ⟨v2, rfl, hT2, hb2⟩; have hb12 := hb1.trans hb2; have hN2 := hN1.of_bl hb2)
    | (go_at_call 6; (with_reducible refine (CT.out _ hb12).mono ?_); clear CT; rintro e w3 ⟨rfl, hb3⟩; have hb13 := hb12.trans hb3; have hN3 := hN2.of_bl hb3; have hT3 := hT2.of_bl hb3)
    | (go_at_call 7; (with_reducible refine (CR.out _ hb13).mono ?_); clear CR; rintro e w4 ⟨rfl, hb4⟩; have hbA := hb13.trans hb4; have hNA := hN3.of_bl hb4; have hTA := hT3.of_bl hb4)
    | (go_at_call 8; (with_reducible refine (BO.out _ hbA).mono ?_); clear BO; rintro e w5 ⟨v5, i5, j5, rfl, ⟨Q5, hN5⟩, hb5⟩; have hbB := hbA.trans hb5; have hNB := hNA.of_bl hb5; have hTB := hTA.of_bl hb5)
    | (go_at_call 9; (with_reducible refine (FO.out _ hbB).mono ?_); clear FO; rintro e w6 ⟨v6, rfl, hT6, hb6⟩; have hbC := hbB.trans hb6; have hNC := hNB.of_bl hb6; have hTC := hTB.of_bl hb6; have hM6 := hN5.of_bl hb6)
    | (go_at_call 10; (with_reducible refine (GC.out _ (hE.of_bl hbC) (hM.of_bl hbC)).mono ?_); clear GC; rintro e w7 ⟨rfl, hb7⟩; have hbD := hbC.trans hb7)
    | (go_at_call 11; (with_reducible refine (KC.out _ (hE.of_bl hbD) (hM.of_bl hbD)).mono ?_); clear KC; rintro e w8 ⟨rfl, hb8⟩; have hbE := hbD.trans hb8; have hb78 := hb7.trans hb8)
    | (go_at_call 12; (with_reducible refine (CC.out _ hbE).mono ?_); clear CC; rintro e w9 ⟨rfl, hb9⟩; have hbF := hbE.trans hb9; have hb79 := hb78.trans hb9; have hNF := hNC.of_bl hb79; have hTF := hTC.of_bl hb79; have hMF := hM6.of_bl hb79; have hUF := hT6.of_bl hb79)
    | (go_at_call 13; (with_reducible refine (NA.out _ _ _ _ _ hNF hMF).mono ?_); clear NA; rintro e w10 ⟨rfl, hb10⟩; have hbG := hbF.trans hb10.bl; have hTG := hTF.of_bl hb10.bl; have hUG := hUF.of_bl hb10.bl)
    | (go_at_call 14; (with_reducible refine (ST.out _ _ _ hTG hUG).mono ?_); rintro e w11 ⟨rfl, hb11⟩))
  go_ret
  exact ⟨rfl, hbG.trans hb11.bl⟩
set_option maxRecDepth 100000 in
set_option maxHeartbeats 4000000 in
theorem treeTells_10 (l : List Tok) (t : List Nd) (v vt : Value) (P : Nat → Prop) (hz : szT l ≤ 9000000) (hw : wtL t ≤ 9000000) (h0 : ckE l = 0) (k0 : ckT t ≠ 0) (w : World) (hE : ES w) (hM : ML w) (hl : TkS w v l) (ht : NdS w P vt t) :
    Calls Tryz.prog 3 #[v, vt] w fun e w' => e = .returned (.bool true) ∧ Bl w w' := by
  have GC := Lib.hid (fun W h m => treeBegun_c W h m)
  have KC := Lib.hid (fun W h m => tokenBegun_c W h m)
  have hzt := sz_flt t
  have hwm := Nat.le_trans (wt_ofM l) hz
  have CT := Lib.hid (fun W (hb : Bl w W) => checkTokens_c l v (Sm_of l (by omega)) W (hl.of_bl hb))
  have CR := Lib.hid (fun W (hb : Bl w W) => checkTree_c t vt P W hw (ht.of_bl hb))
  have CC := Lib.hid (fun W (hb : Bl w W) => check_t t vt P W hw (ht.of_bl hb))
  have BC := Lib.hid (fun W (hb : Bl w W) => build_ok l v (by omega) h0 W (hl.of_bl hb))
  have BO := Lib.hid (fun W (hb : Bl w W) => buildOf_ok l v hz h0 W (hl.of_bl hb))
  have NA := Lib.hid (fun va vb Q R W (ha : NdS W Q va (ofM l)) (hb : NdS W R vb (ofM l)) => (show Calls Tryz.prog 13 #[va, .int .i64 0, .int .i64 0, vb] W (fun e w' => e = .returned (.bool true) ∧ Qt W w') from by have r := nodesAre_ok (ofM l) (ofM l) 0 va vb Q R W hwm ha hb; rw [sameL_self] at r; exact r))
  rw [h0] at CT
  have FC := Lib.hid (fun W (hb : Bl w W) => flat_nil t vt P hw k0 W (ht.of_bl hb))
  have ST := Lib.hid (fun va vb W (ha : TkS W va []) (hb : TkS W vb []) => sameTk [] (by simp [szT]) va vb W ha hb)
  obtain ⟨p, hp⟩ : ∃ p, p = ckT t := ⟨_, rfl⟩
  rw [← hp] at FC CR CC k0
  have hp2 : (p != 0) = true := by simpa using k0
  have hp3 : (p == 0) = false := by simpa using k0
  clear hp
  clear hz hw hzt hwm ht hl h0 k0
  go_enter Tryz.func3, Tryz.ntmps3
  go_wp2_with (first
    | (go_at_call 4; (with_reducible refine (BC.out _ (Bl.refl _)).mono ?_); clear BC; rintro e w1 ⟨v1, rfl, ⟨Q1, hN1⟩, hb1⟩)
    | (go_at_call 5; (with_reducible refine (FC.out _ hb1).mono ?_); clear FC; rintro e w2 ⟨v2, rfl, hT2, hb2⟩; have hb12 := hb1.trans hb2; have hN2 := hN1.of_bl hb2)
    | (go_at_call 6; (with_reducible refine (CT.out _ hb12).mono ?_); clear CT; rintro e w3 ⟨rfl, hb3⟩; have hb13 := hb12.trans hb3; have hN3 := hN2.of_bl hb3; have hT3 := hT2.of_bl hb3)
    | (go_at_call 7; (with_reducible refine (CR.out _ hb13).mono ?_); clear CR; rintro e w4 ⟨rfl, hb4⟩; have hbA := hb13.trans hb4; have hNA := hN3.of_bl hb4; have hTA := hT3.of_bl hb4)
    | (go_at_call 8; (with_reducible refine (BO.out _ hbA).mono ?_); clear BO; rintro e w5 ⟨v5, i5, j5, rfl, ⟨Q5, hN5⟩, hb5⟩; have hbB := hbA.trans hb5; have hNB := hNA.of_bl hb5; have hTB := hTA.of_bl hb5)
    | (go_at_call 10; (with_reducible refine (GC.out _ (hE.of_bl hbB) (hM.of_bl hbB)).mono ?_); clear GC; rintro e w7 ⟨rfl, hb7⟩; have hbD := hbB.trans hb7)
    | (go_at_call 11; (with_reducible refine (KC.out _ (hE.of_bl hbD) (hM.of_bl hbD)).mono ?_); clear KC; rintro e w8 ⟨rfl, hb8⟩; have hbE := hbD.trans hb8; have hb78 := hb7.trans hb8)
    | (go_at_call 12; (with_reducible refine (CC.out _ hbE).mono ?_); clear CC; rintro e w9 ⟨rfl, hb9⟩; have hbF := hbE.trans hb9; have hb79 := hb78.trans hb9; have hNF := hNB.of_bl hb79; have hTF := hTB.of_bl hb79; have hMF := hN5.of_bl hb79)
    | (go_at_call 13; (with_reducible refine (NA.out _ _ _ _ _ hNF hMF).mono ?_); clear NA; rintro e w10 ⟨rfl, hb10⟩; have hbG := hbF.trans hb10.bl; have hTG := hTF.of_bl hb10.bl)
    | (go_at_call 14; (with_reducible refine (ST.out _ _ _ hTG (TkS.nil _)).mono ?_); rintro e w11 ⟨rfl, hb11⟩))
  go_ret
  exact ⟨rfl, hbG.trans hb11.bl⟩
set_option maxRecDepth 100000 in
set_option maxHeartbeats 4000000 in
theorem treeTells_01 (l : List Tok) (t : List Nd) (v vt : Value) (P : Nat → Prop) (hz : szT l ≤ 9000000) (hw : wtL t ≤ 9000000) (h0 : ckE l ≠ 0) (k0 : ckT t = 0) (w : World) (hE : ES w) (hM : ML w) (hl : TkS w v l) (ht : NdS w P vt t) :
    Calls Tryz.prog 3 #[v, vt] w fun e w' => e = .returned (.bool true) ∧ Bl w w' := by
  have GC := Lib.hid (fun W h m => treeBegun_c W h m)
  have KC := Lib.hid (fun W h m => tokenBegun_c W h m)
  have hzt := sz_flt t
  have hwm := Nat.le_trans (wt_ofM l) hz
  have CT := Lib.hid (fun W (hb : Bl w W) => checkTokens_c l v (Sm_of l (by omega)) W (hl.of_bl hb))
  have CR := Lib.hid (fun W (hb : Bl w W) => checkTree_c t vt P W hw (ht.of_bl hb))
  have CC := Lib.hid (fun W (hb : Bl w W) => check_t t vt P W hw (ht.of_bl hb))
  have BC := Lib.hid (fun W (hb : Bl w W) => build_nil l v (by omega) h0 W (hl.of_bl hb))
  obtain ⟨q, hq⟩ : ∃ q, q = ckE l := ⟨_, rfl⟩
  rw [← hq] at BC CT h0
  have NA := Lib.hid (fun va Q W (ha : NdS W Q va []) => nodesAre_no q va (.slice none 0 0) Q W h0 ha)
  have hq2 : (q != 0) = true := by simpa using h0
  have hq3 : (q == 0) = false := by simpa using h0
  clear hq
  have FC := Lib.hid (fun W (hb : Bl w W) => flat_tk t vt P hw k0 W (ht.of_bl hb))
  have FO := Lib.hid (fun W (hb : Bl w W) => flatOf_tk t vt P hw W (ht.of_bl hb))
  have ST := Lib.hid (fun va vb W (ha : TkS W va (fltL t)) (hb : TkS W vb (fltL t)) => sameTk (fltL t) (by omega) va vb W ha hb)
  rw [k0] at CR CC
  clear hz hw hzt hwm ht hl h0 k0
  go_enter Tryz.func3, Tryz.ntmps3
  go_wp2_with (first
    | (go_at_call 4; (with_reducible refine (BC.out _ (Bl.refl _)).mono ?_); clear BC; rintro e w1 ⟨v1, rfl, ⟨Q1, hN1⟩, hb1⟩)
    | (go_at_call 5; (with_reducible refine (FC.out _ hb1).mono ?_); clear FC; rintro e w2 ⟨v2, rfl, hT2, hb2⟩; have hb12 := hb1.trans hb2; have hN2 := hN1.of_bl hb2)
    | (go_at_call 6; (with_reducible refine (CT.out _ hb12).mono ?_); clear CT; rintro e w3 ⟨rfl, hb3⟩; have hb13 := hb12.trans hb3; have hN3 := hN2.of_bl hb3; have hT3 := hT2.of_bl hb3)
    | (go_at_call 7; (with_reducible refine (CR.out _ hb13).mono ?_); clear CR; rintro e w4 ⟨rfl, hb4⟩; have hbA := hb13.trans hb4; have hNA := hN3.of_bl hb4; have hTA := hT3.of_bl hb4)
    | (go_at_call 9; (with_reducible refine (FO.out _ hbA).mono ?_); clear FO; rintro e w6 ⟨v6, rfl, hT6, hb6⟩; have hbC := hbA.trans hb6; have hNC := hNA.of_bl hb6; have hTC := hTA.of_bl hb6)
    | (go_at_call 10; (with_reducible refine (GC.out _ (hE.of_bl hbC) (hM.of_bl hbC)).mono ?_); clear GC; rintro e w7 ⟨rfl, hb7⟩; have hbD := hbC.trans hb7)
    | (go_at_call 11; (with_reducible refine (KC.out _ (hE.of_bl hbD) (hM.of_bl hbD)).mono ?_); clear KC; rintro e w8 ⟨rfl, hb8⟩; have hbE := hbD.trans hb8; have hb78 := hb7.trans hb8)
    | (go_at_call 12; (with_reducible refine (CC.out _ hbE).mono ?_); clear CC; rintro e w9 ⟨rfl, hb9⟩; have hbF := hbE.trans hb9; have hb79 := hb78.trans hb9; have hNF := hNC.of_bl hb79; have hTF := hTC.of_bl hb79; have hUF := hT6.of_bl hb79)
    | (go_at_call 13; (with_reducible refine (NA.out _ _ _ hNF).mono ?_); clear NA; rintro e w10 ⟨rfl, hb10⟩; have hbG := hbF.trans hb10.bl; have hTG := hTF.of_bl hb10.bl; have hUG := hUF.of_bl hb10.bl)
    | (go_at_call 14; (with_reducible refine (ST.out _ _ _ hTG hUG).mono ?_); rintro e w11 ⟨rfl, hb11⟩))
  go_ret
  exact ⟨rfl, hbG.trans hb11.bl⟩
set_option maxRecDepth 100000 in
set_option maxHeartbeats 4000000 in
theorem treeTells_00 (l : List Tok) (t : List Nd) (v vt : Value) (P : Nat → Prop) (hz : szT l ≤ 9000000) (hw : wtL t ≤ 9000000) (h0 : ckE l ≠ 0) (k0 : ckT t ≠ 0) (w : World) (hE : ES w) (hM : ML w) (hl : TkS w v l) (ht : NdS w P vt t) :
    Calls Tryz.prog 3 #[v, vt] w fun e w' => e = .returned (.bool true) ∧ Bl w w' := by
  have GC := Lib.hid (fun W h m => treeBegun_c W h m)
  have KC := Lib.hid (fun W h m => tokenBegun_c W h m)
  have hzt := sz_flt t
  have hwm := Nat.le_trans (wt_ofM l) hz
  have CT := Lib.hid (fun W (hb : Bl w W) => checkTokens_c l v (Sm_of l (by omega)) W (hl.of_bl hb))
  have CR := Lib.hid (fun W (hb : Bl w W) => checkTree_c t vt P W hw (ht.of_bl hb))
  have CC := Lib.hid (fun W (hb : Bl w W) => check_t t vt P W hw (ht.of_bl hb))
  have BC := Lib.hid (fun W (hb : Bl w W) => build_nil l v (by omega) h0 W (hl.of_bl hb))
  obtain ⟨q, hq⟩ : ∃ q, q = ckE l := ⟨_, rfl⟩
  rw [← hq] at BC CT h0
  have NA := Lib.hid (fun va Q W (ha : NdS W Q va []) => nodesAre_no q va (.slice none 0 0) Q W h0 ha)
  have hq2 : (q != 0) = true := by simpa using h0
  have hq3 : (q == 0) = false := by simpa using h0
  clear hq
  have FC := Lib.hid (fun W (hb : Bl w W) => flat_nil t vt P hw k0 W (ht.of_bl hb))
  have ST := Lib.hid (fun va vb W (ha : TkS W va []) (hb : TkS W vb []) => sameTk [] (by simp [szT]) va vb W ha hb)
  obtain ⟨p, hp⟩ : ∃ p, p = ckT t := ⟨_, rfl⟩
  rw [← hp] at FC CR CC k0
  have hp2 : (p != 0) = true := by simpa using k0
  have hp3 : (p == 0) = false := by simpa using k0
  clear hp
  clear hz hw hzt hwm ht hl h0 k0
  go_enter Tryz.func3, Tryz.ntmps3
  go_wp2_with (first
    | (go_at_call 4; (with_reducible refine (BC.out _ (Bl.refl _)).mono ?_); clear BC; rintro e w1 ⟨v1, rfl, ⟨Q1, hN1⟩, hb1⟩)
    | (go_at_call 5; (with_reducible refine (FC.out _ hb1).mono ?_); clear FC; rintro e w2 ⟨v2, rfl, hT2, hb2⟩; have hb12 := hb1.trans hb2; have hN2 := hN1.of_bl hb2)
    | (go_at_call 6; (with_reducible refine (CT.out _ hb12).mono ?_); clear CT; rintro e w3 ⟨rfl, hb3⟩; have hb13 := hb12.trans hb3; have hN3 := hN2.of_bl hb3; have hT3 := hT2.of_bl hb3)
    | (go_at_call 7; (with_reducible refine (CR.out _ hb13).mono ?_); clear CR; rintro e w4 ⟨rfl, hb4⟩; have hbA := hb13.trans hb4; have hNA := hN3.of_bl hb4; have hTA := hT3.of_bl hb4)
    | (go_at_call 10; (with_reducible refine (GC.out _ (hE.of_bl hbA) (hM.of_bl hbA)).mono ?_); clear GC; rintro e w7 ⟨rfl, hb7⟩; have hbD := hbA.trans hb7)
    | (go_at_call 11; (with_reducible refine (KC.out _ (hE.of_bl hbD) (hM.of_bl hbD)).mono ?_); clear KC; rintro e w8 ⟨rfl, hb8⟩; have hbE := hbD.trans hb8; have hb78 := hb7.trans hb8)
    | (go_at_call 12; (with_reducible refine (CC.out _ hbE).mono ?_); clear CC; rintro e w9 ⟨rfl, hb9⟩; have hbF := hbE.trans hb9; have hb79 := hb78.trans hb9; have hNF := hNA.of_bl hb79; have hTF := hTA.of_bl hb79)
    | (go_at_call 13; (with_reducible refine (NA.out _ _ _ hNF).mono ?_); clear NA; rintro e w10 ⟨rfl, hb10⟩; have hbG := hbF.trans hb10.bl; have hTG := hTF.of_bl hb10.bl)
    | (go_at_call 14; (with_reducible refine (ST.out _ _ _ hTG (TkS.nil _)).mono ?_); rintro e w11 ⟨rfl, hb11⟩))
  go_ret
  exact ⟨rfl, hbG.trans hb11.bl⟩
theorem treeTells_c (l : List Tok) (t : List Nd) (v vt : Value) (P : Nat → Prop) (hz : szT l ≤ 9000000) (hw : wtL t ≤ 9000000) (w : World) (hE : ES w) (hM : ML w) (hl : TkS w v l) (ht : NdS w P vt t) :
    Calls Tryz.prog 3 #[v, vt] w fun e w' => e = .returned (.bool true) ∧ Bl w w' := by
  by_cases h0 : ckE l = 0
  · by_cases k0 : ckT t = 0
    · exact treeTells_11 l t v vt P hz hw h0 k0 w hE hM hl ht
    · exact treeTells_10 l t v vt P hz hw h0 k0 w hE hM hl ht
  · by_cases k0 : ckT t = 0
    · exact treeTells_01 l t v vt P hz hw h0 k0 w hE hM hl ht
    · exact treeTells_00 l t v vt P hz hw h0 k0 w hE hM hl ht
end Go.Proofs.YtjclpmpphkmpdaaGreatDoor

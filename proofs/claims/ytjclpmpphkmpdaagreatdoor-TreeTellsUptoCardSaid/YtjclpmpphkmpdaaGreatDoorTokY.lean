/- Tokens: Check of the program. -/
import Derived.Test.YtjclpmpphkmpdaaGreatDoorGrpP
namespace Go.Proofs.YtjclpmpphkmpdaaGreatDoor
open Go.RowKit

/-- Not too great for any machine. -/
def Sm (l : List Tok) : Prop := ∀ t ∈ l, t.2.1.length ≤ 1099511627776 ∧ t.2.2.1.length ≤ 1099511627776 ∧ (∀ a ∈ t.2.2.1, a.1.length ≤ 1099511627776 ∧ a.2.length ≤ 1099511627776) ∧ t.2.2.2.length ≤ 1099511627776
def pk (l : List Tok) : Nat → Int
  | 0 => 0
  | j + 1 => (l[j]?.map (·.1)).getD 0
theorem tkEF_cons (k : Int) (t : Tok) (l : List Tok) : tkEF k (t :: l) = if tkE t ≠ 0 then tkE t else if t.1 = 1 ∧ k = 1 then 4 else tkEF t.1 l := rfl

set_option maxRecDepth 100000 in
set_option maxHeartbeats 4000000 in
theorem check_c (l : List Tok) (v : Value) (hS : Sm l) (w : World) (hA : TkS w v l) :
    Calls Tryz.prog 15 #[v] w fun e w' => e = .returned (.int .i64 (ckE l)) ∧ Bl w w' := by
  obtain ⟨ao, c, rfl, hA⟩ := hA
  by_cases h3 : 3000 < l.length
  · have h3' : (3000 : Int) < (l.length : Int) := by omega
    have HE := Lib.hid (show ckE l = 2 by unfold ckE; rw [if_pos h3])
    clear h3
    go_enter Tryz.func15, Tryz.ntmps15
    go_wp2
    go_ret
    exact ⟨by rw [HE.out]; rfl, Bl.refl _⟩
  · have h3' : ¬ (3000 : Int) < (l.length : Int) := by omega
    have hl3 : l.length ≤ 3000 := by omega
    have HC := Lib.hid (show ckE l = tkEF 0 l by unfold ckE; rw [if_neg h3])
    have HS := Lib.hid hS
    clear h3 hS
    go_enter Tryz.func15, Tryz.ntmps15
    go_wp2
    go_loopw [11] (fun i wr => ∃ k : Nat, k ≤ l.length ∧ i = .int .i64 k ∧ Hid (ckE l = tkEF (pk l k) (l.drop k)) ∧ Bl w wr) (fun i _ => l.length - (intOf i).toNat)
    case atStart => exact ⟨0, Nat.zero_le _, rfl, Lib.hid (by rw [HC.out]; rfl), Bl.refl _⟩
    case round =>
      obtain ⟨k, hk, rfl, HP, hbl⟩ := hrel
      by_cases hlt : k < l.length
      · obtain ⟨g, o, va, rfl, hg, h1, h2, h3, h4, h5, h6⟩ := hA k hlt
        obtain ⟨s1, s2, s3, s4⟩ := HS.out l[k] (List.getElem_mem hlt)
        have y1 := (hbl.cells.1 g _ hg).trans h1
        have y2 := (hbl.cells.1 g _ hg).trans h2
        have y3 := (hbl.cells.1 g _ hg).trans h3
        have y4 := (hbl.cells.1 g _ hg).trans h4
        have hgr : g < wr.heap.size := Nat.lt_of_lt_of_le hg (Below.size hbl)
        have OC := Lib.hid (fun W (hb : Bl wr W) => one_c l[k] va s2 (fun a ha => (s3 a ha).1) s1 W ((h5.of_bl hbl).of_bl hb) h6)
        unfold tkV at OC
        obtain ⟨vo, vn, vc, rfl, -⟩ := h6
        have HE := Lib.hid (show ckE l = if tkE l[k] ≠ 0 then tkE l[k] else if l[k].1 = 1 ∧ pk l k = 1 then 4 else tkEF (pk l (k + 1)) (l.drop (k + 1)) by
          rw [HP.out, List.drop_eq_getElem_cons hlt, tkEF_cons, show pk l (k + 1) = l[k].1 by simp [pk, hlt]])
        have hprev : 0 < k → wr.cell? ⟨g, o + (k - 1) * 4, none⟩ = some (.int .i64 (pk l k)) := by
          intro hk0
          obtain ⟨g2, o2, _, e, hg2, x1, _⟩ := hA (k - 1) (by omega)
          cases e
          rw [(hbl.cells.1 g _ hg).trans x1]
          obtain ⟨j, rfl⟩ : ∃ j, k = j + 1 := ⟨k - 1, by omega⟩
          simp [pk, show j < l.length by omega]
        clear h1 h2 h3 h4 h5 hA s1 s2 s3 s4
        by_cases he : tkE l[k] = 0
        · rw [he] at OC
          rw [if_neg (by simp [he])] at HE
          clear he
          by_cases hk0 : 0 < k
          · have hp := hprev hk0
            have hki : (0 : Int) < (k : Int) := by omega
            have hkn : ((k : Int) - 1).toNat = k - 1 := by omega
            have hk1 : (0 : Int) ≤ (k : Int) - 1 := by omega
            have hk2 : (k : Int) - 1 < (l.length : Int) := by omega
            have hk3 : k - 1 < l.length := by omega
            obtain ⟨p, hpe⟩ : ∃ p, p = pk l k := ⟨_, rfl⟩
            rw [← hpe] at hp HE
            clear hprev hpe
            by_cases ha : l[k].1 = 1
            · have ha' : (l[k].1 == 1) = true := by simp [ha]
              by_cases hpp : p = 1
              · have HE2 := Lib.hid (show ckE l = 4 by rw [HE.out, if_pos ⟨ha, hpp⟩])
                have hp' : (p == 1) = true := by simp [hpp]
                clear ha hpp
                go_wp2_with (go_at_call 34; (with_reducible refine (OC.out _ ((Bl.refl _).alloc _)).mono ?_); rintro e w7 ⟨rfl, hb7⟩; have hcz := (((Bl.refl wr).alloc _).trans hb7).cells.1; have x1 := (hcz g (o + (k - 1) * 4) hgr).trans hp; have x2 := hb7.cells.1 wr.heap.size 0 (by simp); rw [World.cell?_alloc_new] at x2; simp only [List.getElem?_toArray, List.getElem?_cons_zero] at x2)
                go_ret
                exact ⟨by rw [HE2.out]; rfl, (hbl.alloc _).trans hb7⟩
              · have HE2 := Lib.hid (show ckE l = tkEF (pk l (k + 1)) (l.drop (k + 1)) by rw [HE.out, if_neg (fun h => hpp h.2)])
                have hp' : (p == 1) = false := by simp [hpp]
                clear ha hpp
                go_wp2_with (go_at_call 34; (with_reducible refine (OC.out _ ((Bl.refl _).alloc _)).mono ?_); rintro e w7 ⟨rfl, hb7⟩; have hcz := (((Bl.refl wr).alloc _).trans hb7).cells.1; have x1 := (hcz g (o + (k - 1) * 4) hgr).trans hp; have x2 := hb7.cells.1 wr.heap.size 0 (by simp); rw [World.cell?_alloc_new] at x2; simp only [List.getElem?_toArray, List.getElem?_cons_zero] at x2)
                go_roundw
                case rel => exact ⟨k + 1, by omega, by go_num, HE2, (hbl.alloc _).trans hb7⟩
                case measure => simp [intOf]; omega
            · have HE2 := Lib.hid (show ckE l = tkEF (pk l (k + 1)) (l.drop (k + 1)) by rw [HE.out, if_neg (fun h => ha h.1)])
              have ha' : (l[k].1 == 1) = false := by simp [ha]
              clear ha
              go_wp2_with (go_at_call 34; (with_reducible refine (OC.out _ ((Bl.refl _).alloc _)).mono ?_); rintro e w7 ⟨rfl, hb7⟩; have hcz := (((Bl.refl wr).alloc _).trans hb7).cells.1; have x1 := (hcz g (o + (k - 1) * 4) hgr).trans hp; have x2 := hb7.cells.1 wr.heap.size 0 (by simp); rw [World.cell?_alloc_new] at x2; simp only [List.getElem?_toArray, List.getElem?_cons_zero] at x2)
              go_roundw
              case rel => exact ⟨k + 1, by omega, by go_num, HE2, (hbl.alloc _).trans hb7⟩
              case measure => simp [intOf]; omega
          · have HE2 := Lib.hid (show ckE l = tkEF (pk l (k + 1)) (l.drop (k + 1)) by rw [HE.out, if_neg (fun h => by obtain rfl : k = 0 := (by omega); exact absurd h.2 (by simp [pk]))])
            have hki : ¬ (0 : Int) < (k : Int) := by omega
            clear hprev
            go_wp2_with (go_at_call 34; (with_reducible refine (OC.out _ ((Bl.refl _).alloc _)).mono ?_); rintro e w7 ⟨rfl, hb7⟩)
            go_roundw
            case rel => exact ⟨k + 1, by omega, by go_num, HE2, (hbl.alloc _).trans hb7⟩
            case measure => simp [intOf]; omega
        · have HE2 := Lib.hid (show ckE l = tkE l[k] by rw [HE.out, if_pos he])
          have hne : (tkE l[k] == 0) = false := by simp [he]
          have hne2 : (tkE l[k] != 0) = true := by simp [he]
          clear he hprev
          go_wp2_with (go_at_call 34; (with_reducible refine (OC.out _ ((Bl.refl _).alloc _)).mono ?_); rintro e w7 ⟨rfl, hb7⟩)
          go_ret
          exact ⟨by rw [HE2.out]; rfl, (hbl.alloc _).trans hb7⟩
      · have HE := Lib.hid (show ckE l = 0 by rw [HP.out, List.drop_eq_nil_of_le (by omega)]; rfl)
        go_wp2
        go_ret
        exact ⟨by rw [HE.out]; rfl, hbl⟩
end Go.Proofs.YtjclpmpphkmpdaaGreatDoor

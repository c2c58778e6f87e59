/- Documents: what is wrong with nodes: node and Check of the program. · Documents: Check. -/
import Derived.Test.YtkacjnifhmgeiaaGreatDoorGrpL
import Derived.Test.YtkacjnifhmgeiaaGreatDoorXmlJ
import Derived.Test.YtkacjnifhmgeiaaGreatDoorGrpE
import Derived.Test.YtkacjnifhmgeiaaGreatDoorGrpJ
import Derived.Test.YtkacjnifhmgeiaaGreatDoorTreR
namespace Go.Proofs.YtkacjnifhmgeiaaGreatDoor
open Go.RowKit

/-- Is the node ahead of that place a text? -/
def pvX (l : List Nd) (k : Nat) : Bool := match k with | 0 => false | j + 1 => (l[j]?.map (fun d => decide (d.n = []))).getD false
theorem cxN_step (p : Bool) (d : Nd) : cxN p d = if cxN false d ≠ 0 then cxN false d else if p = true ∧ d.n = [] then 4 else 0 := by
  cases d with
  | mk n a x k =>
    simp only [cxN, Nd.n]
    by_cases h1 : nxE (.mk n a x k) = 0
    · by_cases h2 : cxL false k = 0
      · simp [h1, h2]
        try rfl
      · simp [h1, h2]
    · simp [h1]
theorem cxL_step (p : Bool) (d : Nd) (l : List Nd) : cxL p (d :: l) = if cxN false d ≠ 0 then cxN false d else if p = true ∧ d.n = [] then 4 else cxL (decide (d.n = [])) l := by
  rw [show cxL p (d :: l) = if cxN p d ≠ 0 then cxN p d else cxL (decide (d.n = [])) l from rfl, cxN_step p d]
  by_cases h1 : cxN false d = 0
  · by_cases h2 : p = true ∧ d.n = []
    · simp [h1, h2]
    · simp [h1, h2]
  · simp [h1]
theorem cxN_txt_no {d : Nd} (hn : d.n = []) (h : d.x = [] ∨ d.a ≠ [] ∨ d.k ≠ []) : cxN false d = 1 := by
  cases d with
  | mk n a x k => simp only [Nd.n, Nd.x, Nd.a, Nd.k] at *; subst hn; simp [cxN, nxE, h]
theorem cxN_txt {d : Nd} (hn : d.n = []) (h1 : d.x ≠ []) (h2 : d.a = []) (h3 : d.k = []) : cxN false d = 0 := by
  cases d with
  | mk n a x k => simp only [Nd.n, Nd.x, Nd.a, Nd.k] at *; subst hn h2 h3; simp [cxN, nxE, h1, cxL]
theorem cxN_form {d : Nd} (hn : d.n ≠ []) (h : d.x ≠ [] ∨ isTi d.n = false) : cxN false d = 1 := by
  cases d with
  | mk n a x k => simp only [Nd.n, Nd.x] at *; simp [cxN, nxE, hn, h]
theorem cxN_atr {d : Nd} (hn : d.n ≠ []) (h1 : d.x = []) (h2 : isTi d.n = true) (h3 : atX d.a ≠ 0) : cxN false d = atX d.a := by
  cases d with
  | mk n a x k => simp only [Nd.n, Nd.x, Nd.a] at *; subst h1; simp [cxN, nxE, hn, h2, h3]
theorem cxN_kids {d : Nd} (hn : d.n ≠ []) (h1 : d.x = []) (h2 : isTi d.n = true) (h3 : atX d.a = 0) : cxN false d = cxL false d.k := by
  cases d with
  | mk n a x k =>
    simp only [Nd.n, Nd.x, Nd.a, Nd.k] at *
    subst h1
    by_cases h : cxL false k = 0
    · simp [cxN, nxE, hn, h2, h3, h]
    · simp [cxN, nxE, hn, h2, h3, h]
theorem emp2 {l : List UInt8} (h : l ≠ []) : l.isEmpty = false := by cases l <;> simp_all
theorem nb_par (w : World) (n x : List UInt8) (ao : Option Addr) (al ac : Nat) (ko : Option Addr) (kl kc : Nat) : Nb (w.alloc (.cells #[.string ⟨n.toArray⟩, .slice ao al ac, .string ⟨x.toArray⟩, .slice ko kl kc] 25)) w.heap.size n (.slice ao al ac) x (.slice ko kl kc) := heap_alloc_new _ _
theorem wtN_mk (d : Nd) : wtN d = 1 + d.n.length + wtA d.a + d.x.length + wtL d.k := by cases d; rfl

set_option maxRecDepth 100000 in
set_option maxHeartbeats 8000000 in
theorem nodeX_c (N : Nat) : ∀ (d : Nd) (va vk : Value) (P : Nat → Prop) (w : World), wtN d < N → N ≤ 10000000 → AtP w P va d.a → NdS w P vk d.k →
    Calls Tryz.prog 28 #[.agg #[.string ⟨d.n.toArray⟩, va, .string ⟨d.x.toArray⟩, vk]] w fun e w' => e = .returned (.int .i64 (cxN false d)) ∧ Bl w w' := by
  induction N with
  | zero => intro d va vk P w h; omega
  | succ N ih =>
    intro d va vk P w hN hN2 hA hK
    have hw := wtN_mk d
    have hla := wtA_len d.a
    have AC := Lib.hid (fun W (hb : Bl w W) => attrsT_c d.a va (by omega) (fun a ha => by have := wtA_get d.a a ha; omega) W (hA.ats.of_bl hb) hA.cap)
    have TC := Lib.hid (fun W => titleP_c d.n (by omega) W)
    obtain ⟨ao, ac, rfl, -⟩ := id hA
    have HKN := Lib.hid hK
    obtain ⟨ko, kc, rfl, hkc, hK⟩ := hK.get
    have IH := Lib.hid ih
    have HK := Lib.hid hK
    clear ih hK hA
    have hal : d.a ≠ [] → (0 : Int) < (d.a.length : Int) := fun h => by have := List.length_pos_iff.2 h; omega
    have hkl : d.k ≠ [] → (0 : Int) < (d.k.length : Int) := fun h => by have := List.length_pos_iff.2 h; omega
    by_cases hn : d.n = []
    · have hne : d.n.isEmpty = true := by simp [hn]
      by_cases h1 : d.x = []
      · have hx : d.x.isEmpty = true := by simp [h1]
        have HE := Lib.hid (cxN_txt_no hn (Or.inl h1))
        clear hn h1 hal hkl
        go_enter Tryz.func28, Tryz.ntmps28
        go_wp2
        go_ret
        exact ⟨by rw [HE.out]; rfl, (Bl.refl _).alloc _⟩
      · have hx : d.x.isEmpty = false := emp2 h1
        by_cases h2 : d.a = []
        · rw [show d.a.length = 0 by simp [h2]]
          by_cases h3 : d.k = []
          · rw [show d.k.length = 0 by simp [h3]]
            have HE := Lib.hid (cxN_txt hn h1 h2 h3)
            clear hn h1 hal hkl h2 h3
            go_enter Tryz.func28, Tryz.ntmps28
            go_wp2
            go_ret
            exact ⟨by rw [HE.out]; rfl, (Bl.refl _).alloc _⟩
          · obtain ⟨km, hkm⟩ : ∃ m, d.k.length = m + 1 := ⟨d.k.length - 1, by have := hkl h3; omega⟩
            rw [hkm]
            clear hkm hkc HK HKN
            have HE := Lib.hid (cxN_txt_no hn (Or.inr (Or.inr h3)))
            clear hn h1 hal hkl h2 h3
            go_enter Tryz.func28, Tryz.ntmps28
            go_wp2
            go_ret
            exact ⟨by rw [HE.out]; rfl, (Bl.refl _).alloc _⟩
        · obtain ⟨am, ham⟩ : ∃ m, d.a.length = m + 1 := ⟨d.a.length - 1, by have := hal h2; omega⟩
          rw [ham]
          clear ham AC
          have HE := Lib.hid (cxN_txt_no hn (Or.inr (Or.inl h2)))
          clear hn h1 hal hkl h2
          go_enter Tryz.func28, Tryz.ntmps28
          go_wp2
          go_ret
          exact ⟨by rw [HE.out]; rfl, (Bl.refl _).alloc _⟩
    · have hne : d.n.isEmpty = false := emp2 hn
      by_cases h1 : d.x = []
      · have hx : d.x.isEmpty = true := by simp [h1]
        cases hT : isTi d.n
        · rw [hT] at TC
          have HE := Lib.hid (cxN_form hn (Or.inr hT))
          clear hn h1 hal hkl hT
          go_enter Tryz.func28, Tryz.ntmps28
          go_wp2_with (go_at_call 53; (with_reducible refine (TC.out _).mono ?_); rintro e w7 ⟨rfl, rfl⟩)
          go_ret
          exact ⟨by rw [HE.out]; rfl, (Bl.refl _).alloc _⟩
        · rw [hT] at TC
          by_cases h3 : atX d.a = 0
          · have HE := Lib.hid (cxN_kids hn h1 hT h3)
            rw [h3] at AC
            have hll := cnt_len d.k
            have hlc := wt_cnt d.k
            clear hn h1 hal hkl hT h3
            go_enter Tryz.func28, Tryz.ntmps28
            go_wp2_with (first | (go_at_call 53; (with_reducible refine (TC.out _).mono ?_); rintro e w7 ⟨rfl, rfl⟩) | (go_at_call 54; (with_reducible refine (AC.out _ ((Bl.refl _).alloc _)).mono ?_); rintro e w8 ⟨rfl, hb8⟩; have hP8 := (nb_par w d.n d.x ao d.a.length ac ko d.k.length kc).of_bl hb8; obtain ⟨p0, p1, p2, p3, -⟩ := hP8.cells))
            have hw8 : Bl w w8 := ((Bl.refl _).alloc _).trans hb8
            have hz8 : w.heap.size < w8.heap.size := by have h2 := Below.size hb8; rw [alloc_size] at h2; omega
            go_loopw [51] (fun i wr => ∃ k : Nat, k ≤ d.k.length ∧ i = .int .i64 k ∧ Hid (cxL false d.k = cxL (pvX d.k k) (d.k.drop k)) ∧ Bl w8 wr) (fun i _ => d.k.length - (intOf i).toNat)
            case atStart => exact ⟨0, Nat.zero_le _, rfl, Lib.hid rfl, Bl.refl _⟩
            case round =>
              obtain ⟨k, hk, rfl, HP, hb⟩ := hrel
              have hbw := hw8.trans hb
              have p3r := (hb.cells.1 w.heap.size 3 hz8).trans p3
              have hzr : w.heap.size < wr.heap.size := Nat.lt_of_lt_of_le hz8 (Below.size hb)
              clear p0 p1 p2 p3
              by_cases hlt : k < d.k.length
              · obtain ⟨g, o, va', vk', rfl, hg, -, h1, h2, h3, h4, h5, h6⟩ := HK.out k hlt
                have y1 := (hbw.cells.1 g _ hg).trans h1
                have y2 := (hbw.cells.1 g _ hg).trans h2
                have y3 := (hbw.cells.1 g _ hg).trans h3
                have y4 := (hbw.cells.1 g _ hg).trans h4
                have hgr : g < wr.heap.size := Nat.lt_of_lt_of_le hg (Below.size hbw)
                have hwt := wt_get d.k k hlt
                have hwn := wtN_mk d.k[k]
                have HE2 := Lib.hid (show cxL false d.k = _ from by rw [HP.out, List.drop_eq_getElem_cons hlt, cxL_step])
                have NC := Lib.hid (fun W (hbW : Bl wr W) => IH.out d.k[k] va' vk' P W (by omega) (by omega) ((h5.still (Still.of_bl hbw)).still (Still.of_bl hbW)) ((h6.of_bl hbw).of_bl hbW))
                obtain ⟨a1, n1, c1, rfl⟩ : ∃ a n c, va' = .slice a n c := by obtain ⟨a, c, e, -⟩ := h5; exact ⟨a, _, c, e⟩
                obtain ⟨a2, c2, rfl⟩ : ∃ a c, vk' = .slice a d.k[k].k.length c := by obtain ⟨a, c, e, -⟩ := h6; exact ⟨a, c, e⟩
                have hprev : 0 < k → ∃ q, wr.cell? ⟨g, o + (k - 1) * 4, none⟩ = some (.string ⟨q.toArray⟩) ∧ pvX d.k k = decide (q = []) := by
                  intro hk0
                  obtain ⟨g2, o2, _, _, e, hg2, _, x1, _⟩ := HK.out (k - 1) (by omega)
                  cases e
                  obtain ⟨j, rfl⟩ : ∃ j, k = j + 1 := ⟨k - 1, by omega⟩
                  refine ⟨_, (hbw.cells.1 g _ hg).trans x1, ?_⟩
                  simp [pvX, show j < d.k.length by omega]
                clear h1 h2 h3 h4 h5 h6
                by_cases he : cxN false d.k[k] = 0
                · rw [he] at NC
                  have HE3 := Lib.hid (show cxL false d.k = _ from by rw [HE2.out, if_neg (fun h => h he)])
                  clear he HE2
                  have hcase : (∃ pq : Nm, 0 < k ∧ d.k[k].n.isEmpty = true ∧ pq.isEmpty = true ∧ wr.cell? ⟨g, o + (k - 1) * 4, none⟩ = some (.string ⟨pq.toArray⟩) ∧ Hid (cxL false d.k = 4)) ∨
                      ((0 : Int) < (k : Int) ∧ d.k[k].n.isEmpty = false ∧ Hid (cxL false d.k = cxL (decide (d.k[k].n = [])) (d.k.drop (k + 1)))) ∨
                      (¬ (0 : Int) < (k : Int) ∧ Hid (cxL false d.k = cxL (decide (d.k[k].n = [])) (d.k.drop (k + 1)))) ∨
                      (∃ pq : Nm, 0 < k ∧ d.k[k].n.isEmpty = true ∧ pq.isEmpty = false ∧ wr.cell? ⟨g, o + (k - 1) * 4, none⟩ = some (.string ⟨pq.toArray⟩) ∧ Hid (cxL false d.k = cxL (decide (d.k[k].n = [])) (d.k.drop (k + 1)))) := by
                    by_cases hn : d.k[k].n = []
                    · by_cases hk1 : 0 < k
                      · obtain ⟨pq, hp1, hp2⟩ := hprev hk1
                        by_cases hpe : pq = []
                        · exact .inl ⟨pq, hk1, by simp [hn], by simp [hpe], hp1, Lib.hid (by rw [HE3.out, if_pos ⟨by rw [hp2]; simpa using hpe, hn⟩])⟩
                        · exact .inr (.inr (.inr ⟨pq, hk1, by simp [hn], by simpa using hpe, hp1, Lib.hid (by rw [HE3.out, if_neg (fun h => by rw [hp2] at h; exact hpe (by simpa using h.1))])⟩))
                      · exact .inr (.inr (.inl ⟨by omega, Lib.hid (by rw [HE3.out, if_neg (fun h => by have h1 := h.1; rw [show k = 0 by omega] at h1; simp [pvX] at h1)])⟩))
                    · have hne2 : d.k[k].n.isEmpty = false := emp2 hn
                      have hx2 := Lib.hid (show cxL false d.k = _ from by rw [HE3.out, if_neg (fun h => hn h.2)])
                      by_cases hk1 : 0 < k
                      · exact .inr (.inl ⟨by omega, hne2, hx2⟩)
                      · exact .inr (.inr (.inl ⟨by omega, hx2⟩))
                  clear HE3 hprev
                  have hpv := Lib.hid (show pvX d.k (k + 1) = decide (d.k[k].n = []) by simp [pvX, hlt])
                  rcases hcase with ⟨pq, hk1, hne2, hpe, hp1, HR⟩ | ⟨hk1, hne2, HR⟩ | ⟨hk1, HR⟩ | ⟨pq, hk0, hne2, hpe, hp1, HR⟩
                  · have hk1' : (0 : Int) < (k : Int) := by omega
                    go_wp2_with (go_at_call 28; (with_reducible refine (NC.out _ ((Bl.refl _).alloc _)).mono ?_); rintro e w1 ⟨rfl, hb1⟩; have hw1 : Bl wr w1 := ((Bl.refl wr).alloc _).trans hb1; have q0 : w1.cell? ⟨wr.heap.size, 0, none⟩ = some (.string ⟨d.k[k].n.toArray⟩) := (hb1.cells.1 wr.heap.size 0 (by simp)).trans (by simp); have q3 := (hw1.cells.1 w.heap.size 3 hzr).trans p3r; have q7 := (hw1.cells.1 g _ hgr).trans hp1)
                    go_ret
                    exact ⟨ret_int (by rw [HE.out, HR.out]), hbw.trans hw1⟩
                  · go_wp2_with (go_at_call 28; (with_reducible refine (NC.out _ ((Bl.refl _).alloc _)).mono ?_); rintro e w1 ⟨rfl, hb1⟩; have hw1 : Bl wr w1 := ((Bl.refl wr).alloc _).trans hb1; have q0 : w1.cell? ⟨wr.heap.size, 0, none⟩ = some (.string ⟨d.k[k].n.toArray⟩) := (hb1.cells.1 wr.heap.size 0 (by simp)).trans (by simp); have q3 := (hw1.cells.1 w.heap.size 3 hzr).trans p3r)
                    go_roundw
                    case rel => exact ⟨k + 1, by omega, by go_num, Lib.hid (by rw [HR.out, hpv.out]), hb.trans hw1⟩
                    case measure => simp [intOf]; omega
                  · have hk1d : decide ((0 : Int) < (k : Int)) = false := by simp; omega
                    go_wp2_with (go_at_call 28; (with_reducible refine (NC.out _ ((Bl.refl _).alloc _)).mono ?_); rintro e w1 ⟨rfl, hb1⟩; have hw1 : Bl wr w1 := ((Bl.refl wr).alloc _).trans hb1; have q0 : w1.cell? ⟨wr.heap.size, 0, none⟩ = some (.string ⟨d.k[k].n.toArray⟩) := (hb1.cells.1 wr.heap.size 0 (by simp)).trans (by simp); have q3 := (hw1.cells.1 w.heap.size 3 hzr).trans p3r)
                    go_roundw
                    case rel => exact ⟨k + 1, by omega, by go_num, Lib.hid (by rw [HR.out, hpv.out]), hb.trans hw1⟩
                    case measure => simp [intOf]; omega
                  · have hk1' : (0 : Int) < (k : Int) := by omega
                    go_wp2_with (go_at_call 28; (with_reducible refine (NC.out _ ((Bl.refl _).alloc _)).mono ?_); rintro e w1 ⟨rfl, hb1⟩; have hw1 : Bl wr w1 := ((Bl.refl wr).alloc _).trans hb1; have q0 : w1.cell? ⟨wr.heap.size, 0, none⟩ = some (.string ⟨d.k[k].n.toArray⟩) := (hb1.cells.1 wr.heap.size 0 (by simp)).trans (by simp); have q3 := (hw1.cells.1 w.heap.size 3 hzr).trans p3r; have q7 := (hw1.cells.1 g _ hgr).trans hp1)
                    go_roundw
                    case rel => exact ⟨k + 1, by omega, by go_num, Lib.hid (by rw [HR.out, hpv.out]), hb.trans hw1⟩
                    case measure => simp [intOf]; omega
                · have HR := Lib.hid (show cxL false d.k = cxN false d.k[k] by rw [HE2.out, if_pos he])
                  obtain ⟨q, hq⟩ : ∃ q, q = cxN false d.k[k] := ⟨_, rfl⟩
                  rw [← hq] at NC he HR
                  have hq2 : (q != 0) = true := by simpa using he
                  have hq3 : (q == 0) = false := by simpa using he
                  clear he hq HE2 hprev
                  go_wp2_with (go_at_call 28; (with_reducible refine (NC.out _ ((Bl.refl _).alloc _)).mono ?_); rintro e w1 ⟨rfl, hb1⟩; have hw1 : Bl wr w1 := ((Bl.refl wr).alloc _).trans hb1; have q0 : w1.cell? ⟨wr.heap.size, 0, none⟩ = some (.string ⟨d.k[k].n.toArray⟩) := (hb1.cells.1 wr.heap.size 0 (by simp)).trans (by simp); have q3 := (hw1.cells.1 w.heap.size 3 hzr).trans p3r)
                  go_ret
                  exact ⟨ret_int (by rw [HE.out, HR.out]), hbw.trans hw1⟩
              · have HR := Lib.hid (show cxL false d.k = 0 by rw [HP.out, List.drop_eq_nil_of_le (by omega)]; rfl)
                go_wp2
                go_ret
                exact ⟨ret_int (by rw [HE.out, HR.out]), hbw⟩
          · have HE := Lib.hid (cxN_atr hn h1 hT h3)
            obtain ⟨q, hq⟩ : ∃ q, q = atX d.a := ⟨_, rfl⟩
            rw [← hq] at AC HE h3
            have hq2 : (q != 0) = true := by simpa using h3
            have hq3 : (q == 0) = false := by simpa using h3
            clear hn h1 hal hkl hT h3 hq
            go_enter Tryz.func28, Tryz.ntmps28
            go_wp2_with (first | (go_at_call 53; (with_reducible refine (TC.out _).mono ?_); rintro e w7 ⟨rfl, rfl⟩) | (go_at_call 54; (with_reducible refine (AC.out _ ((Bl.refl _).alloc _)).mono ?_); rintro e w8 ⟨rfl, hb8⟩))
            go_ret
            exact ⟨by rw [HE.out]; rfl, ((Bl.refl _).alloc _).trans hb8⟩
      · have hx : d.x.isEmpty = false := emp2 h1
        have HE := Lib.hid (cxN_form hn (Or.inl h1))
        clear hn h1 hal hkl
        go_enter Tryz.func28, Tryz.ntmps28
        go_wp2
        go_ret
        exact ⟨by rw [HE.out]; rfl, (Bl.refl _).alloc _⟩
end Go.Proofs.YtkacjnifhmgeiaaGreatDoor

namespace Go.Proofs.YtkacjnifhmgeiaaGreatDoor
open Go.RowKit

/-- What Check answers. -/
def ckX (d : Nd) : Int := if 3000 < manyL 8 [d] ∨ 8 < deepL 8 [d] then 2 else if d.n = [] then 1 else cxN false d
theorem nds_one {w : World} {q : Nat} {d : Nd} {va vk : Value} {P : Nat → Prop} (hN : Nb w q d.n va d.x vk) (ha : AtP w P va d.a) (hk : NdS w P vk d.k) : NdS w (fun k => P k ∨ k = q) (.slice (some ⟨q, 0, none⟩) 1 1) [d] := by
  obtain ⟨h0, h1, h2, h3, -⟩ := hN.cells
  refine ⟨some ⟨q, 0, none⟩, 1, rfl, Nat.le_refl _, fun _ => ⟨q, 0, rfl, hN.lt, Or.inr rfl, ?_, trivial⟩⟩
  exact NdC_mk.2 ⟨va, vk, h0, h1, h2, h3, ha.mono (fun k h => Or.inl h), hk.mono (fun k h => Or.inl h)⟩
set_option maxRecDepth 100000 in
set_option maxHeartbeats 4000000 in
theorem checkX_c (d : Nd) (va vk : Value) (P : Nat → Prop) (w : World) (hN : wtN d ≤ 9000000) (hA : AtP w P va d.a) (hK : NdS w P vk d.k) :
    Calls Tryz.prog 13 #[.agg #[.string ⟨d.n.toArray⟩, va, .string ⟨d.x.toArray⟩, vk]] w fun e w' => e = .returned (.int .i64 (ckX d)) ∧ Bl w w' := by
  obtain ⟨ao, ac, rfl, -⟩ := id hA
  obtain ⟨ko, kc, rfl, -⟩ := id hK
  have hw := wtN_mk d
  have hlc := wt_cnt d.k
  have hcn : cntL [d] ≤ 100000000 := by cases d; simp only [cntL, cntN, Nd.k] at *; omega
  have hb1 := (Bl.refl w).alloc (.cells #[.string ⟨d.n.toArray⟩, .slice ao d.a.length ac, .string ⟨d.x.toArray⟩, .slice ko d.k.length kc] 25)
  have hP1 := nb_par w d.n d.x ao d.a.length ac ko d.k.length kc
  have hb2 := hb1.alloc (.cells #[.string ⟨d.n.toArray⟩, .slice ao d.a.length ac, .string ⟨d.x.toArray⟩, .slice ko d.k.length kc] 25)
  have hP2 := nb_par (w.alloc (.cells #[.string ⟨d.n.toArray⟩, .slice ao d.a.length ac, .string ⟨d.x.toArray⟩, .slice ko d.k.length kc] 25)) d.n d.x ao d.a.length ac ko d.k.length kc
  have SC := Lib.hid (size_c 8 [d] _ _ _ hcn (by omega) (nds_one hP2 (hA.still (Still.of_bl hb2)) (hK.of_bl hb2)))
  have hP12 := hP1.of_bl ((Bl.refl _).alloc (.cells #[.string ⟨d.n.toArray⟩, .slice ao d.a.length ac, .string ⟨d.x.toArray⟩, .slice ko d.k.length kc] 25))
  have NC := Lib.hid (fun W (hbW : Bl w W) => nodeX_c 9000001 d (.slice ao d.a.length ac) (.slice ko d.k.length kc) P W (by omega) (by omega) (hA.still (Still.of_bl hbW)) (hK.of_bl hbW))
  rw [alloc_size] at SC
  obtain ⟨M, hM⟩ : ∃ M, M = manyL 8 [d] := ⟨_, rfl⟩
  obtain ⟨D, hD⟩ : ∃ D, D = deepL 8 [d] := ⟨_, rfl⟩
  have HC := Lib.hid (show ckX d = if 3000 < M ∨ 8 < D then 2 else if d.n = [] then 1 else cxN false d by rw [hM, hD]; rfl)
  rw [← hM, ← hD] at SC
  have SC2 : Hid (Calls Tryz.prog 27 #[.slice (some ⟨w.heap.size + 1, 0, none⟩) 1 1, .int .i64 8] ((w.alloc (.cells #[.string ⟨d.n.toArray⟩, .slice ao d.a.length ac, .string ⟨d.x.toArray⟩, .slice ko d.k.length kc] 25)).alloc (.cells #[.string ⟨d.n.toArray⟩, .slice ao d.a.length ac, .string ⟨d.x.toArray⟩, .slice ko d.k.length kc] 25)) fun e w' => e = .returned (.tuple #[.int .i64 (M : Nat), .int .i64 (D : Nat)]) ∧ Bl ((w.alloc (.cells #[.string ⟨d.n.toArray⟩, .slice ao d.a.length ac, .string ⟨d.x.toArray⟩, .slice ko d.k.length kc] 25)).alloc (.cells #[.string ⟨d.n.toArray⟩, .slice ao d.a.length ac, .string ⟨d.x.toArray⟩, .slice ko d.k.length kc] 25)) w') := SC
  have hPW : Hid (∀ w3, Bl ((w.alloc (.cells #[.string ⟨d.n.toArray⟩, .slice ao d.a.length ac, .string ⟨d.x.toArray⟩, .slice ko d.k.length kc] 25)).alloc (.cells #[.string ⟨d.n.toArray⟩, .slice ao d.a.length ac, .string ⟨d.x.toArray⟩, .slice ko d.k.length kc] 25)) w3 → Nb w3 w.heap.size d.n (.slice ao d.a.length ac) d.x (.slice ko d.k.length kc) ∧ Bl w w3) := Lib.hid (fun w3 h => ⟨hP12.of_bl h, hb2.trans h⟩)
  clear SC hM hD hP1 hP2 hP12 hb1 hb2
  have hs1 : M < 3001 ∨ 3000 < M := by omega
  by_cases hm : 3000 < M
  · have hm' : (3000 : Int) < (M : Int) := by omega
    have HR := Lib.hid (show ckX d = 2 by rw [HC.out, if_pos (Or.inl hm)])
    go_enter Tryz.func13, Tryz.ntmps13
    go_wp2_with (go_at_call 27; (with_reducible refine SC2.out.mono ?_); rintro e w3 ⟨rfl, hb3⟩; obtain ⟨hN3, hb3'⟩ := hPW.out _ hb3)
    go_ret
    exact ⟨ret_int HR.out.symm, hb3'⟩
  · have hm' : ¬ (3000 : Int) < (M : Int) := by omega
    by_cases hd : 8 < D
    · have hd' : (8 : Int) < (D : Int) := by omega
      have HR := Lib.hid (show ckX d = 2 by rw [HC.out, if_pos (Or.inr hd)])
      go_enter Tryz.func13, Tryz.ntmps13
      go_wp2_with (go_at_call 27; (with_reducible refine SC2.out.mono ?_); rintro e w3 ⟨rfl, hb3⟩; obtain ⟨hN3, hb3'⟩ := hPW.out _ hb3)
      go_ret
      exact ⟨ret_int HR.out.symm, hb3'⟩
    · have hd' : ¬ (8 : Int) < (D : Int) := by omega
      by_cases hn : d.n = []
      · have hne : d.n.isEmpty = true := by simp [hn]
        have HR := Lib.hid (show ckX d = 1 by rw [HC.out, if_neg (by omega), if_pos hn])
        clear hn
        go_enter Tryz.func13, Tryz.ntmps13
        go_wp2_with (go_at_call 27; (with_reducible refine SC2.out.mono ?_); rintro e w3 ⟨rfl, hb3⟩; obtain ⟨hN3, hb3'⟩ := hPW.out _ hb3; obtain ⟨p0, p1, p2, p3, -⟩ := hN3.cells)
        go_ret
        exact ⟨ret_int HR.out.symm, hb3'⟩
      · have hne : d.n.isEmpty = false := emp2 hn
        have HR := Lib.hid (show ckX d = cxN false d by rw [HC.out, if_neg (by omega), if_neg hn])
        clear hn
        go_enter Tryz.func13, Tryz.ntmps13
        go_wp2_with (first | (go_at_call 27; (with_reducible refine SC2.out.mono ?_); rintro e w3 ⟨rfl, hb3⟩; obtain ⟨hN3, hb3'⟩ := hPW.out _ hb3; obtain ⟨p0, p1, p2, p3, -⟩ := hN3.cells) | (go_at_call 28; (with_reducible refine (NC.out _ hb3').mono ?_); rintro e w4 ⟨rfl, hb4⟩))
        go_ret
        exact ⟨ret_int HR.out.symm, hb3'.trans hb4⟩
end Go.Proofs.YtkacjnifhmgeiaaGreatDoor

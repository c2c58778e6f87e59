/- Shelves: the law ShelfNewest. -/
import Derived.Test.YthnpljkekhieiaaGreatDoorShAk
import Derived.Lib.AppendZeros
namespace Go.Proofs.YthnpljkekhieiaaGreatDoor
open Go.RowKit

/-- Entries that are read, appended to an own row. -/
theorem run_append_ents {P : Program} (w : World) (base : Nat) (t ty e : TypeId) (i : TypeInfo) (z : Value) (bytes : Nat) (ht : P.underlying t = some (.slice e)) (hi : P.info? e = some i) (hz : i.zero = some z)
    (hsize : i.size = 5) (hby : i.bytes = bytes) (hzs : z.cells.size = 5)
    (v : Value) (n : Nat) (xs : List Value) (hown : w.ownsRow base e 5 v n xs) (va : Value) (al : List Ent) (hA : EnS w va al)
    (h63 : n + al.length ≤ maxLen) (hbytes : (n + al.length) * bytes ≤ 140737488355328) (hbase : base ≤ w.heap.size) :
    ∃ v' w', (Builtin.append_ #[t, t] ty #[v, va]).run P w = .ok v' w' ∧ w'.ownsRow base e 5 v' (n + al.length) (xs ++ enW al) ∧ w.grownBy w' v.ownBlock := by
  have hA' := hA
  obtain ⟨ao, cap, rfl, -, hA⟩ := hA
  cases ao with
  | none =>
    have h0 : al = [] := by
      rcases al with _ | ⟨a, al⟩
      · rfl
      · obtain ⟨g, o, e, _⟩ := hA 0 (by simp); cases e
    subst h0
    refine ⟨v, w, ?_, by simpa [enW] using hown, Bl.toGr (Bl.refl w) _⟩
    rcases hown.2 with ⟨rfl, rfl⟩ | ⟨g, cap, cur, rfl, _, _, hnc, _⟩
    · simp [Builtin.append_, run_underlying ht, sizeOf, typeInfo, hi, Builtin.lenOf, Builtin.firstCells]
    · simp [Builtin.append_, run_underlying ht, sizeOf, typeInfo, hi, Builtin.lenOf, Builtin.firstCells, hnc, storeCells]
  | some a =>
    have hnews : ∀ j u, (enW al)[j]? = some u → w.cell? (a.add j) = some u := by
      rcases al with _ | ⟨b, al⟩
      · intro j u h; simp [enW] at h
      · obtain ⟨g, o, e, _⟩ := hA 0 (by simp)
        cases e
        exact ens_news hA'
    obtain ⟨v', w', hr, h2, h3, _⟩ := run_append_own (P := P) w base t ty e i z 5 bytes ht hi hz hsize hby hzs (by decide) v n xs hown a al.length cap (enW al) (enW_len al) hnews (enW_one al) h63 hbytes hbase
    exact ⟨v', w', hr, h2, h3⟩
set_option maxRecDepth 100000 in
set_option maxHeartbeats 8000000 in
theorem newest_no (s : Shf) (v va : Value) (l : List Ent) (hI : ∀ x ∈ s.1, (eI x).length ≤ 9223372036854775807) (hl : l.length ≤ 9223372036854775807) (hp : putC s l ≠ 0) (w : World) (hE : ES w) (hM : ML w) (hS : ShS w v s) (hA : EnS w va l) :
    Calls Tryz.prog 4 #[v, va] w fun e w' => e = .returned (.bool true) ∧ Bl w w' := by
  have BG := Lib.hid (fun W h1 h2 => shBegun_c W h1 h2)
  have PT1 := Lib.hid (fun W h1 h2 h3 h4 => PutS_c s v va l hI hl W h1 h2 h3 h4)
  obtain ⟨C, hC⟩ : ∃ C, C = putC s l := ⟨_, rfl⟩
  rw [show putM s l = 0 by unfold putM; rw [if_neg hp], show putS s l = ([], []) by unfold putS; rw [if_neg hp], ← hC] at PT1
  rw [← hC] at hp
  clear hC
  have HAl := Lib.hid hA
  have HS := Lib.hid hS
  obtain ⟨ve, vr, rfl, hEn, hRd⟩ := hS
  obtain ⟨ao, cap, rfl, hcap, -⟩ := hEn
  obtain ⟨ar, cr, rfl, hcr, -⟩ := hRd
  obtain ⟨aa, ca, rfl, hca, -⟩ := hA
  have Q0 := B2.new w (.slice ao s.1.length cap) (.slice ar s.2.length cr) 25
  have hB := Bl.refl w
  go_enter Tryz.func4, Tryz.ntmps4
  go_wp2_with (first | (go_at_call 13; (with_reducible refine (PT1.out _ ?_ ?_ ?_ ?_).mono ?_); (exact hE.of_bl (by repeat (first | exact hB | refine Bl.drew ?_ | refine Bl.drewN ?_ _ | refine Bl.alloc ?_ _))); (exact hM.of_bl (by repeat (first | exact hB | refine Bl.drew ?_ | refine Bl.drewN ?_ _ | refine Bl.alloc ?_ _))); (exact HS.out.of_bl (by repeat (first | exact hB | refine Bl.drew ?_ | refine Bl.drewN ?_ _ | refine Bl.alloc ?_ _))); (exact HAl.out.of_bl (by repeat (first | exact hB | refine Bl.drew ?_ | refine Bl.drewN ?_ _ | refine Bl.alloc ?_ _))); rintro e wP ⟨svP, rfl, hSP, hbP⟩; replace hB : Bl w wP := Bl.trans (by repeat (first | exact hB | refine Bl.drew ?_ | refine Bl.drewN ?_ _ | refine Bl.alloc ?_ _)) hbP; replace Q0 := Q0.of_bl (Bl.trans (by repeat (first | exact (Bl.refl _) | refine Bl.drew ?_ | refine Bl.drewN ?_ _ | refine Bl.alloc ?_ _)) hbP); obtain ⟨lQ0, q0a, q0b⟩ := id Q0; have HP := Lib.hid hSP; obtain ⟨eP, rP, rfl, hEP, hRP⟩ := hSP; obtain ⟨aP, cP, rfl, hcP, -⟩ := hEP; obtain ⟨tP, uP, rfl, -, -⟩ := hRP; have BP := Bl.refl wP) | (go_at_call 7; (with_reducible refine (BG.out _ ?_ ?_).mono ?_); (exact hE.of_bl (by repeat (first | exact hB | refine Bl.drew ?_ | refine Bl.drewN ?_ _ | refine Bl.alloc ?_ _))); (exact hM.of_bl (by repeat (first | exact hB | refine Bl.drew ?_ | refine Bl.drewN ?_ _ | refine Bl.alloc ?_ _))); rintro e wG ⟨rfl, hbG⟩; replace BP : Bl wP wG := Bl.trans (by repeat (first | exact BP | refine Bl.drew ?_ | refine Bl.drewN ?_ _ | refine Bl.alloc ?_ _)) hbG; replace hB : Bl w wG := Bl.trans (by repeat (first | exact hB | refine Bl.drew ?_ | refine Bl.drewN ?_ _ | refine Bl.alloc ?_ _)) hbG; replace Q0 := Q0.of_bl (Bl.trans (by repeat (first | exact (Bl.refl _) | refine Bl.drew ?_ | refine Bl.drewN ?_ _ | refine Bl.alloc ?_ _)) hbG); have Q1 := (B2.new wP (.slice aP 0 cP) (.slice tP 0 uP) 25).of_bl hbG; obtain ⟨lQ0, q0a, q0b⟩ := id Q0; obtain ⟨lQ1, q1a, q1b⟩ := id Q1))
  go_ret
  exact ⟨rfl, hB⟩
set_option maxRecDepth 100000 in
set_option maxHeartbeats 8000000 in
theorem newest_lt (s : Shf) (v va : Value) (l : List Ent) (hI : ∀ x ∈ s.1, (eI x).length ≤ 9223372036854775807) (hl : l.length ≤ 9223372036854775807) (hp : putC s l = 0) (hlt0 : (putL s l).length < 20) (w : World) (hE : ES w) (hM : ML w) (hS : ShS w v s) (hA : EnS w va l) :
    Calls Tryz.prog 4 #[v, va] w fun e w' => e = .returned (.bool true) ∧ Bl w w' := by
  have BG := Lib.hid (fun W h1 h2 => shBegun_c W h1 h2)
  have hcp := (putC_iff s l).1 hp
  obtain ⟨hRs, hl12, hch⟩ := hcp
  have hs20 := hRs.1
  obtain ⟨L, hL⟩ : ∃ L, L = putL s l := ⟨_, rfl⟩
  have hRT : Rs (L, s.2) := by rw [hL]; exact put_right hRs hch
  have hL20 : L.length ≤ 20 := hRT.1
  have NW := Lib.hid (show ∀ x, x ∈ s.1 ∨ x ∈ l → plE L (eI x) = none → 20 ≤ L.length ∧ eA x ≤ eA (L.getD (L.length - 1) default) from fun x hx => by rw [hL]; exact newest hRs hx)
  have PT1 := Lib.hid (fun W h1 h2 h3 h4 => PutS_c s v va l hI hl W h1 h2 h3 h4)
  obtain ⟨N, hN⟩ : ∃ N, N = putM s l := ⟨_, rfl⟩
  rw [hp, show putS s l = (L, s.2) by unfold putS; rw [if_pos hp, hL], ← hN] at PT1
  have HAl := Lib.hid hA
  have HS := Lib.hid hS
  obtain ⟨ve, vr, rfl, hEn, hRd⟩ := hS
  obtain ⟨ao, cap, rfl, hcap, -⟩ := hEn
  obtain ⟨ar, cr, rfl, hcr, -⟩ := hRd
  obtain ⟨aa, ca, rfl, hca, -⟩ := hA
  have Q0 := B2.new w (.slice ao s.1.length cap) (.slice ar s.2.length cr) 25
  have hB := Bl.refl w
  rw [← hL] at hlt0
  have hlt0' : (L.length : Int) < 20 := by omega
  clear hL hN hRs hRT hch hI hp
  go_enter Tryz.func4, Tryz.ntmps4
  go_wp2_with (first | (go_at_call 13; (with_reducible refine (PT1.out _ ?_ ?_ ?_ ?_).mono ?_); (exact hE.of_bl (by repeat (first | exact hB | refine Bl.drew ?_ | refine Bl.drewN ?_ _ | refine Bl.alloc ?_ _))); (exact hM.of_bl (by repeat (first | exact hB | refine Bl.drew ?_ | refine Bl.drewN ?_ _ | refine Bl.alloc ?_ _))); (exact HS.out.of_bl (by repeat (first | exact hB | refine Bl.drew ?_ | refine Bl.drewN ?_ _ | refine Bl.alloc ?_ _))); (exact HAl.out.of_bl (by repeat (first | exact hB | refine Bl.drew ?_ | refine Bl.drewN ?_ _ | refine Bl.alloc ?_ _))); rintro e wP ⟨svP, rfl, hSP, hbP⟩; replace hB : Bl w wP := Bl.trans (by repeat (first | exact hB | refine Bl.drew ?_ | refine Bl.drewN ?_ _ | refine Bl.alloc ?_ _)) hbP; replace Q0 := Q0.of_bl (Bl.trans (by repeat (first | exact (Bl.refl _) | refine Bl.drew ?_ | refine Bl.drewN ?_ _ | refine Bl.alloc ?_ _)) hbP); obtain ⟨lQ0, q0a, q0b⟩ := id Q0; have HP := Lib.hid hSP; obtain ⟨eP, rP, rfl, hEP, hRP⟩ := hSP; obtain ⟨aP, cP, rfl, hcP, -⟩ := hEP; obtain ⟨tP, uP, rfl, -, -⟩ := hRP; have BP := Bl.refl wP) | (go_at_call 7; (with_reducible refine (BG.out _ ?_ ?_).mono ?_); (exact hE.of_bl (by repeat (first | exact hB | refine Bl.drew ?_ | refine Bl.drewN ?_ _ | refine Bl.alloc ?_ _))); (exact hM.of_bl (by repeat (first | exact hB | refine Bl.drew ?_ | refine Bl.drewN ?_ _ | refine Bl.alloc ?_ _))); rintro e wG ⟨rfl, hbG⟩; replace BP : Bl wP wG := Bl.trans (by repeat (first | exact BP | refine Bl.drew ?_ | refine Bl.drewN ?_ _ | refine Bl.alloc ?_ _)) hbG; replace hB : Bl w wG := Bl.trans (by repeat (first | exact hB | refine Bl.drew ?_ | refine Bl.drewN ?_ _ | refine Bl.alloc ?_ _)) hbG; replace Q0 := Q0.of_bl (Bl.trans (by repeat (first | exact (Bl.refl _) | refine Bl.drew ?_ | refine Bl.drewN ?_ _ | refine Bl.alloc ?_ _)) hbG); have Q1 := (B2.new wP (.slice aP L.length cP) (.slice tP s.2.length uP) 25).of_bl hbG; obtain ⟨lQ0, q0a, q0b⟩ := id Q0; obtain ⟨lQ1, q1a, q1b⟩ := id Q1))
  have HPn := Lib.hid (shs_ens (HP.out.of_bl BP))
  have HSn := Lib.hid (shs_ens (HS.out.of_bl hB))
  have HQ0 := Lib.hid Q0
  have HQ1 := Lib.hid Q1
  clear lQ0 q0a q0b lQ1 q1a q1b Q0 Q1
  go_loopw [8] (fun j wr => ∃ k : Nat, k ≤ s.1.length ∧ j = .int .i64 k ∧ Qt wG wr) (fun j _ => s.1.length - (intOf j).toNat)
  case atStart => exact ⟨0, Nat.zero_le _, rfl, Qt.refl _⟩
  case round =>
    obtain ⟨k, hk, rfl, hq⟩ := hrel
    obtain ⟨l0, q0a, q0b⟩ := HQ0.out.of_bl hq.bl
    obtain ⟨l1, q1a, q1b⟩ := HQ1.out.of_bl hq.bl
    by_cases hlt : k < s.1.length
    · obtain ⟨a', c', e', -, hA⟩ := HSn.out
      cases e'
      obtain ⟨g, o, hao, hg, h1, -, -, -, -⟩ := hA k hlt
      subst hao
      have x1 := (hq.bl.cells.1 g _ hg).trans h1
      have hnn : ¬ plE L (eI s.1[k]) = none := fun h => by have := (NW.out s.1[k] (.inl (List.getElem_mem hlt)) h).1; omega
      have E1 := Lib.hid (fun W (hh : Bl wr W) => entryAt_c L _ (eI s.1[k]) (by omega) W ((HPn.out.of_bl hq.bl).of_bl hh))
      obtain ⟨p, hpl⟩ : ∃ p : Nat, plI L (eI s.1[k]) = p := by
        cases h : plE L (eI s.1[k]) with
        | none => exact absurd h hnn
        | some p => exact ⟨p, plI_some h⟩
      rw [hpl] at E1
      have hp0 : ¬ ((p : Int) < 0) := by omega
      clear h1 hA hnn hpl
      go_wp2_with (go_quiet ((go_at_call 14; first | exact quiet_eq (E1.out _ ((Bl.refl _).drewN _)) | exact quiet_eq2 (E1.out _ ((Bl.refl _).drewN _)))))
      go_roundw
      case rel => exact ⟨k + 1, by omega, by go_num, hq.drewN _⟩
      case measure => simp [intOf]; omega
    · go_wp2
      go_ret
      exact ⟨rfl, hB.trans hq.bl⟩
set_option maxRecDepth 100000 in
set_option maxHeartbeats 8000000 in
theorem newest_ge (s : Shf) (v va : Value) (l : List Ent) (hI : ∀ x ∈ s.1, (eI x).length ≤ 9223372036854775807) (hl : l.length ≤ 9223372036854775807) (hp : putC s l = 0) (hlt0 : ¬ (putL s l).length < 20) (w : World) (hE : ES w) (hM : ML w) (hS : ShS w v s) (hA : EnS w va l) :
    Calls Tryz.prog 4 #[v, va] w fun e w' => e = .returned (.bool true) ∧ Bl w w' := by
  have BG := Lib.hid (fun W h1 h2 => shBegun_c W h1 h2)
  have hcp := (putC_iff s l).1 hp
  obtain ⟨hRs, hl12, hch⟩ := hcp
  have hs20 := hRs.1
  obtain ⟨L, hL⟩ : ∃ L, L = putL s l := ⟨_, rfl⟩
  have hRT : Rs (L, s.2) := by rw [hL]; exact put_right hRs hch
  have hL20 : L.length ≤ 20 := hRT.1
  have NW := Lib.hid (show ∀ x, x ∈ s.1 ∨ x ∈ l → plE L (eI x) = none → 20 ≤ L.length ∧ eA x ≤ eA (L.getD (L.length - 1) default) from fun x hx => by rw [hL]; exact newest hRs hx)
  have PT1 := Lib.hid (fun W h1 h2 h3 h4 => PutS_c s v va l hI hl W h1 h2 h3 h4)
  obtain ⟨N, hN⟩ : ∃ N, N = putM s l := ⟨_, rfl⟩
  rw [hp, show putS s l = (L, s.2) by unfold putS; rw [if_pos hp, hL], ← hN] at PT1
  have HAl := Lib.hid hA
  have HS := Lib.hid hS
  obtain ⟨ve, vr, rfl, hEn, hRd⟩ := hS
  obtain ⟨ao, cap, rfl, hcap, -⟩ := hEn
  obtain ⟨ar, cr, rfl, hcr, -⟩ := hRd
  obtain ⟨aa, ca, rfl, hca, -⟩ := hA
  have Q0 := B2.new w (.slice ao s.1.length cap) (.slice ar s.2.length cr) 25
  have hB := Bl.refl w
  rw [← hL] at hlt0
  have hlt0' : ¬ (L.length : Int) < 20 := by omega
  obtain ⟨z, hz⟩ : ∃ z, L.length = z + 1 := ⟨L.length - 1, by omega⟩
  have hzl : z < L.length := by omega
  have hzl2 : (z : Int) < (L.length : Int) := by omega
  have hk2 : (L.length : Int) - 1 = (z : Int) := by omega
  have HLZ := Lib.hid (show L.getD (L.length - 1) default = L[z] from by rw [show L.length - 1 = z by omega, getD_get _ _ _ hzl])
  obtain ⟨i0, hi, hz0, hz1, hz2⟩ := info_parts Tryz.infoEnt
  clear hz
  clear hL hN hRs hRT hch hI hp
  go_enter Tryz.func4, Tryz.ntmps4
  go_upto_region 13 with (first | (go_at_call 13; (with_reducible refine (PT1.out _ ?_ ?_ ?_ ?_).mono ?_); (exact hE.of_bl (by repeat (first | exact hB | refine Bl.drew ?_ | refine Bl.drewN ?_ _ | refine Bl.alloc ?_ _))); (exact hM.of_bl (by repeat (first | exact hB | refine Bl.drew ?_ | refine Bl.drewN ?_ _ | refine Bl.alloc ?_ _))); (exact HS.out.of_bl (by repeat (first | exact hB | refine Bl.drew ?_ | refine Bl.drewN ?_ _ | refine Bl.alloc ?_ _))); (exact HAl.out.of_bl (by repeat (first | exact hB | refine Bl.drew ?_ | refine Bl.drewN ?_ _ | refine Bl.alloc ?_ _))); rintro e wP ⟨svP, rfl, hSP, hbP⟩; replace hB : Bl w wP := Bl.trans (by repeat (first | exact hB | refine Bl.drew ?_ | refine Bl.drewN ?_ _ | refine Bl.alloc ?_ _)) hbP; replace Q0 := Q0.of_bl (Bl.trans (by repeat (first | exact (Bl.refl _) | refine Bl.drew ?_ | refine Bl.drewN ?_ _ | refine Bl.alloc ?_ _)) hbP); obtain ⟨lQ0, q0a, q0b⟩ := id Q0; have HP := Lib.hid hSP; obtain ⟨eP, rP, rfl, hEP, hRP⟩ := hSP; obtain ⟨aP, cP, rfl, hcP, -⟩ := hEP; obtain ⟨tP, uP, rfl, -, -⟩ := hRP; have BP := Bl.refl wP) | (go_at_call 7; (with_reducible refine (BG.out _ ?_ ?_).mono ?_); (exact hE.of_bl (by repeat (first | exact hB | refine Bl.drew ?_ | refine Bl.drewN ?_ _ | refine Bl.alloc ?_ _))); (exact hM.of_bl (by repeat (first | exact hB | refine Bl.drew ?_ | refine Bl.drewN ?_ _ | refine Bl.alloc ?_ _))); rintro e wG ⟨rfl, hbG⟩; replace BP : Bl wP wG := Bl.trans (by repeat (first | exact BP | refine Bl.drew ?_ | refine Bl.drewN ?_ _ | refine Bl.alloc ?_ _)) hbG; replace hB : Bl w wG := Bl.trans (by repeat (first | exact hB | refine Bl.drew ?_ | refine Bl.drewN ?_ _ | refine Bl.alloc ?_ _)) hbG; replace Q0 := Q0.of_bl (Bl.trans (by repeat (first | exact (Bl.refl _) | refine Bl.drew ?_ | refine Bl.drewN ?_ _ | refine Bl.alloc ?_ _)) hbG); have Q1 := (B2.new wP (.slice aP L.length cP) (.slice tP s.2.length uP) 25).of_bl hbG; obtain ⟨lQ0, q0a, q0b⟩ := id Q0; obtain ⟨lQ1, q1a, q1b⟩ := id Q1))
  have HPn := Lib.hid (shs_ens (HP.out.of_bl BP))
  have HSn := Lib.hid (shs_ens (HS.out.of_bl hB))
  have HAn := Lib.hid (HAl.out.of_bl hB)
  have HQ1 := Lib.hid Q1
  obtain ⟨a1, c1, e1, -, hA1⟩ := HPn.out
  cases e1
  obtain ⟨g, o, hao, hg, x1, x2, x3, x4, x5⟩ := hA1 z hzl
  subst hao
  clear hA1
  obtain ⟨W1, hW1⟩ : ∃ W1, W1 = wG.alloc (enO L[z] 36) := ⟨_, rfl⟩
  have hsz : W1.heap.size = wG.heap.size + 1 := by rw [hW1]; simp
  have hb01 : Bl wG W1 := by rw [hW1]; exact (Bl.refl _).alloc _
  have hB5 : B5 W1 wG.heap.size L[z] := by rw [hW1]; exact B5.new _ _ _
  have hm := World.ownsRow_made (base := W1.heap.size) (e := 36) (size := 5) W1 #[] 0 (Nat.le_refl _) (by decide) rfl
  obtain ⟨v1, w1, hr1, ho1, hg1⟩ := run_append_ents (P := Tryz.prog) (W1.alloc (.cells #[] 36)) W1.heap.size 22 22 36 i0 _ 72 Tryz.underlying22 hi hz0 hz1 hz2 rfl _ 0 [] hm _ s.1 ((HSn.out.of_bl hb01).of_bl ((Bl.refl _).alloc _)) (by unfold maxLen; omega) (by omega) (by simp)
  have hbl1 : Bl W1 w1 := Below.trans ((Bl.refl W1).alloc _) (gr_below hg1 (by simp) (fun q hq => by simp only [Value.ownBlock, Option.some.injEq] at hq; omega))
  obtain ⟨v2, w2, hr2, ho2, hg2⟩ := run_append_ents (P := Tryz.prog) w1 W1.heap.size 22 22 36 i0 _ 72 Tryz.underlying22 hi hz0 hz1 hz2 rfl v1 _ _ ho1 _ l ((HAn.out.of_bl hb01).of_bl hbl1) (by unfold maxLen; omega) (by omega) (Below.size hbl1)
  have hbl2 : Bl W1 w2 := Below.trans hbl1 (gr_below hg2 (Below.size hbl1) (fun q hq => (own_bas ho1 hq).1))
  obtain ⟨al, hal⟩ : ∃ al, al = s.1 ++ l := ⟨_, rfl⟩
  have hall : al.length = s.1.length + l.length := by rw [hal, List.length_append]
  have hO : EnO w2 W1.heap.size v2 al := by
    unfold EnO
    rw [hal, enW_app, List.length_append]
    simpa using ho2
  have HAL := Lib.hid hO.ens
  have hal32 : al.length ≤ 32 := by omega
  have NW2 := Lib.hid (show ∀ x ∈ al, plE L (eI x) = none → eA x ≤ eA L[z] from fun x hx hn => by
    rw [← HLZ.out]
    rw [hal, List.mem_append] at hx
    exact (NW.out x hx hn).2)
  obtain ⟨a3, c3, e3, -⟩ := own_shp hO
  subst e3
  obtain ⟨a4, c4, e4, -⟩ := own_shp ho1
  subst e4
  have hbW : Bl wG w2 := hb01.trans hbl2
  have HB5 := Lib.hid (hB5.of_bl hbl2)
  have HPn2 := Lib.hid (HPn.out.of_bl hbW)
  have HQ12 := Lib.hid (HQ1.out.of_bl hbW)
  have HBw := Lib.hid (hB.trans hbW)
  clear hO ho1 ho2 hg1 hg2 hbl1 hbl2 hB5 hb01 hm hal hall HSn HAn NW HLZ
  rw [hsz] at hr1
  subst hW1
  unfold enO at hr1
  simp only [Nat.zero_add] at hr1 hr2
  go_wp2_with (first | (at_builtin; refine Lib.wpList_append_run _ rfl _ _ _ _ rfl _ _ rfl rfl _ _ hr1 ?_; clear hr1) | (at_builtin; refine Lib.wpList_append_run _ rfl _ _ _ _ rfl _ _ rfl rfl _ _ hr2 ?_))
  go_loopw [11] (fun j wr => ∃ k : Nat, k ≤ al.length ∧ j = .int .i64 k ∧ Qt w2 wr) (fun j _ => al.length - (intOf j).toNat)
  case atStart => exact ⟨0, Nat.zero_le _, rfl, Qt.refl _⟩
  case round =>
    obtain ⟨k, hk, rfl, hq⟩ := hrel
    obtain ⟨l1, q1a, q1b⟩ := HQ12.out.of_bl hq.bl
    obtain ⟨l5, b0, b1, b2, b3, b4⟩ := HB5.out.of_bl hq.bl
    by_cases hlt : k < al.length
    · obtain ⟨a', c', e', -, hA⟩ := HAL.out
      cases e'
      obtain ⟨g6, o6, hao, hg6, h1, -, -, h4, -⟩ := hA k hlt
      subst hao
      have y1 := (hq.bl.cells.1 g6 _ hg6).trans h1
      have y4 := (hq.bl.cells.1 g6 _ hg6).trans h4
      have E1 := Lib.hid (fun W (hh : Bl wr W) => entryAt_c L _ (eI al[k]) (by omega) W ((HPn2.out.of_bl hq.bl).of_bl hh))
      have nw := NW2.out al[k] (List.getElem_mem hlt)
      clear h1 h4 hA
      cases hpl : plE L (eI al[k]) with
      | none =>
        rw [show plI L (eI al[k]) = -1 by unfold plI; rw [hpl]] at E1
        have hle : ¬ eA L[z] < eA al[k] := by have := nw hpl; omega
        clear nw hpl
        go_wp2_with (go_quiet ((go_at_call 14; first | with_reducible exact quiet_eq (E1.out _ ((Bl.refl _).drewN _)) | with_reducible exact quiet_eq2 (E1.out _ ((Bl.refl _).drewN _)))))
        go_roundw
        case rel => exact ⟨k + 1, by omega, by go_num, (by repeat (first | exact hq | refine Qt.drewN ?_ _))⟩
        case measure => simp [intOf]; omega
      | some p =>
        rw [plI_some hpl] at E1
        have hp0 : ¬ ((p : Int) < 0) := by omega
        clear nw hpl
        go_wp2_with (go_quiet ((go_at_call 14; first | with_reducible exact quiet_eq (E1.out _ ((Bl.refl _).drewN _)) | with_reducible exact quiet_eq2 (E1.out _ ((Bl.refl _).drewN _)))))
        go_roundw
        case rel => exact ⟨k + 1, by omega, by go_num, (by repeat (first | exact hq | refine Qt.drewN ?_ _))⟩
        case measure => simp [intOf]; omega
    · go_wp2
      go_ret
      exact ⟨rfl, HBw.out.trans hq.bl⟩
theorem newest_c (s : Shf) (v va : Value) (l : List Ent) (hI : ∀ x ∈ s.1, (eI x).length ≤ 9223372036854775807) (hl : l.length ≤ 9223372036854775807) (w : World) (hE : ES w) (hM : ML w) (hS : ShS w v s) (hA : EnS w va l) :
    Calls Tryz.prog 4 #[v, va] w fun e w' => e = .returned (.bool true) ∧ Bl w w' := by
  by_cases hp : putC s l = 0
  · by_cases hlt : (putL s l).length < 20
    · exact newest_lt s v va l hI hl hp hlt w hE hM hS hA
    · exact newest_ge s v va l hI hl hp hlt w hE hM hS hA
  · exact newest_no s v va l hI hl hp w hE hM hS hA
end Go.Proofs.YthnpljkekhieiaaGreatDoor

/- Shelves: Unread. · Shelves: the reference's EntryAt; SameEntries, SameTexts, SameShelf. · Shelves: what is tried once. -/
import Derived.Test.YthnpljkekhieiaaGreatDoorGrpV
namespace Go.Proofs.YthnpljkekhieiaaGreatDoor
open Go.RowKit

def unA (s : Shf) (k : Nat) : List Nm := ((s.1.take k).filter fun x => !fnT s.2 (eI x)).map eI
theorem unA_next (s : Shf) (k : Nat) (h : k < s.1.length) : unA s (k + 1) = unA s k ++ if fnT s.2 (eI s.1[k]) then [] else [eI s.1[k]] := by
  unfold unA
  rw [take_snoc _ k h, List.filter_append, List.map_append]
  congr 1
  cases hc : fnT s.2 (eI s.1[k]) <;> simp only [List.filter_cons, List.filter_nil, hc] <;> rfl
theorem unA_all (s : Shf) : unA s s.1.length = unL s := by unfold unA unL drL; rw [List.take_length]
theorem unA_len (s : Shf) (k : Nat) : (unA s k).length ≤ k := by
  unfold unA
  rw [List.length_map]
  exact Nat.le_trans (List.length_filter_le _ _) (by rw [List.length_take]; omega)
theorem un_news (w : World) (x : Value) : ∀ j u, ([x] : List Value)[j]? = some u → (w.alloc (.cells #[x] 9)).cell? ((⟨w.heap.size, 0, none⟩ : Addr).add j) = some u := fun j u hj => by
  rw [addr_at, cell_of_row (heap_alloc_new w _)]
  simpa using hj
theorem sto_nil (w : World) (base : Nat) : StO w base (.slice none 0 0) [] := ⟨rfl, .inl ⟨rfl, rfl⟩⟩
set_option maxRecDepth 100000 in
set_option maxHeartbeats 4000000 in
theorem Unread_bad (s : Shf) (v : Value) (hI : ∀ x ∈ s.1, (eI x).length ≤ 9223372036854775807) (hc : ckS s ≠ 0) (w : World) (hE : ES w) (hM : ML w) (hS : ShS w v s) :
    Calls Tryz.prog 9 #[v] w fun e w' => e = .returned (.tuple #[.slice none 0 0, .int .i64 (ckS s)]) ∧ Bl w w' := by
  have CK := Lib.hid (fun W (hh : Bl w W) => checkS_c s v hI W (hE.of_bl hh) (hM.of_bl hh) (hS.of_bl hh))
  obtain ⟨C, hC⟩ : ∃ C, C = ckS s := ⟨_, rfl⟩
  rw [← hC] at CK hc ⊢
  clear hC
  obtain ⟨ve, vr, rfl, hEn, hRd⟩ := hS
  obtain ⟨ao, cap, rfl, hcap, -⟩ := hEn
  obtain ⟨ar, cr, rfl, hcr, -⟩ := hRd
  have hp0 := heap_alloc_new w (.cells #[.slice ao s.1.length cap, .slice ar s.2.length cr] 25)
  clear hE hM
  go_enter Tryz.func9, Tryz.ntmps9
  go_wp2_with (go_at_call 11; (with_reducible refine (CK.out _ (by repeat (first | exact Bl.refl _ | refine Bl.drew ?_ | refine Bl.drewN ?_ _ | refine Bl.alloc ?_ _))).mono ?_); rintro e w1 ⟨rfl, hb1⟩; have hW1 : Bl w w1 := Bl.trans (by repeat (first | exact Bl.refl _ | refine Bl.drew ?_ | refine Bl.drewN ?_ _ | refine Bl.alloc ?_ _)) hb1; have hp1 := keep_bl hp0 hb1; obtain ⟨lp, p0, p1⟩ := keep_cells hp1)
  go_ret2
  exact ⟨rfl, hW1⟩
set_option maxRecDepth 100000 in
set_option maxHeartbeats 4000000 in
theorem Unread_ok (s : Shf) (v : Value) (hI : ∀ x ∈ s.1, (eI x).length ≤ 9223372036854775807) (hck : ckS s = 0) (w : World) (hE : ES w) (hM : ML w) (hS : ShS w v s) :
    Calls Tryz.prog 9 #[v] w fun e w' => ∃ v', e = .returned (.tuple #[v', .int .i64 0]) ∧ StS w' v' (unL s) ∧ Bl w w' := by
  have CK := Lib.hid (fun W (hh : Bl w W) => checkS_c s v hI W (hE.of_bl hh) (hM.of_bl hh) (hS.of_bl hh))
  rw [hck] at CK
  have hRs := (ckS_iff s).1 hck
  obtain ⟨hs20, hs40, -, -, -⟩ := hRs
  have OW := Lib.hid (fun W (hh : Bl w W) => own_c s v (by omega) (by omega) W (hS.of_bl hh))
  obtain ⟨i0, hi, hz0, hz1, hz2⟩ := info_parts Tryz.infoStr
  obtain ⟨ve, vr, rfl, hEn, hRd⟩ := hS
  obtain ⟨ao, cap, rfl, hcap, -⟩ := hEn
  obtain ⟨ar, cr, rfl, hcr, -⟩ := hRd
  have hp0 := heap_alloc_new w (.cells #[.slice ao s.1.length cap, .slice ar s.2.length cr] 25)
  clear hE hM
  go_enter Tryz.func9, Tryz.ntmps9
  go_wp2_with (first | (go_at_call 11; (with_reducible refine (CK.out _ (by repeat (first | exact Bl.refl _ | refine Bl.drew ?_ | refine Bl.drewN ?_ _ | refine Bl.alloc ?_ _))).mono ?_); rintro e w1 ⟨rfl, hb1⟩; have hW1 : Bl w w1 := Bl.trans (by repeat (first | exact Bl.refl _ | refine Bl.drew ?_ | refine Bl.drewN ?_ _ | refine Bl.alloc ?_ _)) hb1; have hp1 := keep_bl hp0 hb1; obtain ⟨lp, p0, p1⟩ := keep_cells hp1) | (go_at_call 24; (with_reducible refine (OW.out _ hW1).mono ?_); rintro e w3 ⟨b3, rfl, ⟨ve3, vr3, hb3, hbb3, hE3, hR3⟩, hbl3⟩; have hW3 := hW1.trans hbl3; have HEN := Lib.hid hE3.ens; have WC0 := fun W (hh : Bl w3 W) x => was_c b3 ve3 vr3 s.2 x (by omega) W (keep_bl hb3 hh) (hR3.sts.of_bl hh); unfold enV at WC0; have WC := Lib.hid WC0; clear WC0; obtain ⟨ae, ce, rfl, hce⟩ := own_shp hE3; obtain ⟨at3, ct3, rfl, hct3⟩ := own_shp hR3; clear hE3 hR3; obtain ⟨lk3, k0, k1⟩ := keep_cells hb3))
  go_loopw [6, 22] (fun u i wr => ∃ k : Nat, k ≤ s.1.length ∧ i = .int .i64 k ∧ Hid (StO wr w3.heap.size u (unA s k)) ∧ Bl w3 wr) (fun _ i _ => s.1.length - (intOf i).toNat)
  case atStart => exact ⟨0, Nat.zero_le _, rfl, Lib.hid (sto_nil _ _), Bl.refl _⟩
  case round =>
    obtain ⟨k, hk, rfl, HU, hbl⟩ := hrel
    obtain ⟨au, cu, rfl, hcu⟩ := own_shp HU.out
    by_cases hlt : k < s.1.length
    · obtain ⟨a', c', e', -, hA⟩ := HEN.out
      cases e'
      obtain ⟨g, o, rfl, hg, h1, h2, h3, h4, h5⟩ := hA k hlt
      have x1 := (hbl.cells.1 g _ hg).trans h1
      have x2 := (hbl.cells.1 g _ hg).trans h2
      have x3 := (hbl.cells.1 g _ hg).trans h3
      have x4 := (hbl.cells.1 g _ hg).trans h4
      have x5 := (hbl.cells.1 g _ hg).trans h5
      clear h1 h2 h3 h4 h5 hA
      have HN := Lib.hid (unA_next s k hlt)
      have hul := unA_len s k
      have WK0 := fun W (hh : Bl w3 W) => WC.out W hh s.1[k]
      cases hp : fnT s.2 (eI s.1[k])
      · rw [hp] at WK0
        have WK := Lib.hid WK0
        have HP := Lib.hid hp
        clear WK0 hp
        go_wp2_with (first | (go_at_call 29; (with_reducible refine (WK.out _ (Bl.trans hbl (by repeat (first | exact Bl.refl _ | refine Bl.drew ?_ | refine Bl.drewN ?_ _ | refine Bl.alloc ?_ _)))).mono ?_); rintro e w4 ⟨rfl, hb4⟩; obtain ⟨lq, y0, y1, y2, y3, y4⟩ := (B5.new wr s.1[k] 36).of_bl hb4; have HU4 := Lib.hid ((HU.out.of_bl ((Bl.refl _).alloc _)).of_bl hb4); have hb04 := hbl.trans (Bl.trans (by repeat (first | exact Bl.refl _ | refine Bl.drew ?_ | refine Bl.drewN ?_ _ | refine Bl.alloc ?_ _)) hb4)) | (at_builtin; refine wpList_append_own _ rfl _ _ 23 rfl w3.heap.size 9 i0 (.string ⟨#[]⟩) 1 16 Tryz.underlying23 hi hz0 hz1 hz2 rfl (by decide) (.slice au (unA s k).length cu) (unA s k).length (strV (unA s k)) rfl ?_ ⟨w4.heap.size, 0, none⟩ 1 1 ([.string ⟨(eI s.1[k]).toArray⟩] : List Value) rfl rfl ?_ (strQ_one (eI s.1[k])) ?_ ?_ ?_ ?_; (exact HU4.out.of_bl ((Bl.refl _).alloc _)); (exact un_news w4 _); (unfold maxLen; omega); omega; (exact Nat.le_trans (Below.size hb04) (by simp)); intro v5 w5 hown5 hgr5 _))
        go_roundw
        case rel =>
          refine ⟨k + 1, by omega, by go_num, Lib.hid ?_, ?_⟩
          · rw [HN.out, HP.out]
            unfold StO
            rw [strV_app]
            simp only [Bool.false_eq_true, if_false, List.length_append, List.length_singleton]
            exact hown5
          · exact Below.trans (hb04.alloc _) (gr_below hgr5 (Nat.le_trans (Below.size hb04) (by simp)) (fun q hq => (own_bas HU4.out hq).1))
        case measure => simp [intOf]; omega
      · rw [hp] at WK0
        have WK := Lib.hid WK0
        have HP := Lib.hid hp
        clear WK0 hp
        go_wp2_with (go_at_call 29; (with_reducible refine (WK.out _ (Bl.trans hbl (by repeat (first | exact Bl.refl _ | refine Bl.drew ?_ | refine Bl.drewN ?_ _ | refine Bl.alloc ?_ _)))).mono ?_); rintro e w4 ⟨rfl, hb4⟩)
        go_roundw
        case rel => exact ⟨k + 1, by omega, by go_num, Lib.hid (by rw [HN.out, HP.out]; simpa using (HU.out.of_bl ((Bl.refl _).alloc _)).of_bl hb4), hbl.trans (Bl.trans (by repeat (first | exact Bl.refl _ | refine Bl.drew ?_ | refine Bl.drewN ?_ _ | refine Bl.alloc ?_ _)) hb4)⟩
        case measure => simp [intOf]; omega
    · obtain rfl : k = s.1.length := by omega
      have HA := Lib.hid (unA_all s)
      go_wp2
      go_ret2
      exact ⟨_, rfl, by rw [← HA.out]; exact HU.out.sts, hW3.trans hbl⟩
end Go.Proofs.YthnpljkekhieiaaGreatDoor

namespace Go.Proofs.YthnpljkekhieiaaGreatDoor
open Go.RowKit

set_option maxHeartbeats 1000000 in
theorem entryAt_c (l : List Ent) (v : Value) (i : Nm) (hl : l.length ≤ 1099511627776) (w : World) (hA : EnS w v l) :
    Calls Tryz.prog 14 #[v, .string ⟨i.toArray⟩] w fun e w' => e = .returned (.int .i64 (plI l i)) ∧ w = w' := by
  obtain ⟨ao, cap, rfl, hcap, hA⟩ := hA
  have HPL := Lib.hid (ixB_pl l i)
  go_enter Tryz.func14, Tryz.ntmps14
  go_wp2
  go_loopw [5] (fun j wr => ∃ k : Nat, k ≤ l.length ∧ j = .int .i64 k ∧ Hid (∀ j, j < k → decide (eI (l.getD j zE) = i) = false) ∧ w = wr) (fun j _ => l.length - (intOf j).toNat)
  case atStart => exact ⟨0, Nat.zero_le _, rfl, Lib.hid (fun j h => by omega), rfl⟩
  case round =>
    obtain ⟨k, hk, rfl, HP, rfl⟩ := hrel
    by_cases hlt : k < l.length
    · obtain ⟨g, o, rfl, hg, h1, -, -, -, -⟩ := hA k hlt
      have hgd : l.getD k zE = l[k] := getD_get _ _ _ hlt
      clear hA
      by_cases he : eI l[k] = i
      · have HE := Lib.hid he
        have hne : (eI l[k] == i) = true := by simp [he]
        clear he
        go_wp2
        go_ret
        exact ⟨ret_int (by rw [← HPL.out]; exact (ixB_hit _ _ k hlt (by rw [hgd]; exact decide_eq_true HE.out) HP.out).symm), rfl⟩
      · have HE := Lib.hid he
        have hne : (eI l[k] == i) = false := by simpa using he
        clear he
        go_wp2
        go_roundw
        case rel =>
          refine ⟨k + 1, by omega, by go_num, Lib.hid (fun j hjk => ?_), by trivial⟩
          by_cases e : j = k
          · subst e; rw [hgd]; exact decide_eq_false HE.out
          · exact HP.out j (by omega)
        case measure => simp [intOf]; omega
    · clear hA
      go_wp2
      go_ret
      exact ⟨ret_int (by rw [← HPL.out]; exact (ixB_miss _ _ (fun j hj => HP.out j (by omega))).symm), rfl⟩
theorem neq_ent (a b : Ent) (W : World) : (binOp .neq 36 (enV a) (enV b)).run Tryz.prog W = .ok (.bool (decide (a ≠ b))) W := by
  have hS : Tryz.prog.underlying 36 = some (.struct (Tryz.prog.fieldsOf 36)) := by kernel_rfl
  have hp : Tryz.prog.stoodInHeld 36 = false := by kernel_rfl
  have hs := Tryz.underlying9
  have hi := Tryz.underlying3
  unfold enV
  rw [run_neq_struct, show (10000 : Nat) = 9999 + 1 from rfl, run_equalIn_agg W 9999 36 _ _ hS hp]
  simp only [Program.fieldsOf, Tryz.underlying36]
  go_simp
  obtain ⟨a1, a2, a3, a4, a5⟩ := a
  obtain ⟨b1, b2, b3, b4, b5⟩ := b
  simp only [eI, eT, eL, eA, eH]
  by_cases h1 : a1 = b1 <;> by_cases h2 : a2 = b2 <;> by_cases h3 : a3 = b3 <;> by_cases h4 : a4 = b4 <;> by_cases h5 : a5 = b5 <;> simp [h1, h2, h3, h4, h5]
set_option maxHeartbeats 2000000 in
theorem sameE_c (a b : List Ent) (va vb : Value) (hl : a.length ≤ 1099511627776) (w : World) (hA : EnS w va a) (hB : EnS w vb b) :
    Calls Tryz.prog 12 #[va, vb] w fun e w' => e = .returned (.bool (decide (a = b))) ∧ Qt w w' := by
  obtain ⟨ao, ca, rfl, hca, hA⟩ := hA
  obtain ⟨bo, cb, rfl, hcb, hB⟩ := hB
  by_cases hlen : a.length = b.length
  · have hlen' : ((a.length : Int) != (b.length : Int)) = false := by simp [hlen]
    have HL := Lib.hid hlen
    have hl2 : b.length ≤ 1099511627776 := by omega
    go_enter Tryz.func12, Tryz.ntmps12
    clear hlen
    go_wp2
    go_loopw [5] (fun i wr => ∃ k : Nat, k ≤ a.length ∧ i = .int .i64 k ∧ Hid (∀ j (h1 : j < a.length) (h2 : j < b.length), j < k → a[j] = b[j]) ∧ Qt w wr) (fun i _ => a.length - (intOf i).toNat)
    case atStart => exact ⟨0, Nat.zero_le _, rfl, Lib.hid (fun j _ _ h => by omega), Qt.refl _⟩
    case round =>
      obtain ⟨k, hk, rfl, HP, hq⟩ := hrel
      by_cases hlt : k < a.length
      · have hltb : k < b.length := by have := HL.out; omega
        have hltb' : (k : Int) < (b.length : Int) := by omega
        obtain ⟨g, o, rfl, hg, h1, h2, h3, h4, h5⟩ := hA k hlt
        obtain ⟨g', o', rfl, hg', h1', h2', h3', h4', h5'⟩ := hB k hltb
        have x1 := (hq.bl.cells.1 g _ hg).trans h1
        have x2 := (hq.bl.cells.1 g _ hg).trans h2
        have x3 := (hq.bl.cells.1 g _ hg).trans h3
        have x4 := (hq.bl.cells.1 g _ hg).trans h4
        have x5 := (hq.bl.cells.1 g _ hg).trans h5
        have y1 := (hq.bl.cells.1 g' _ hg').trans h1'
        have y2 := (hq.bl.cells.1 g' _ hg').trans h2'
        have y3 := (hq.bl.cells.1 g' _ hg').trans h3'
        have y4 := (hq.bl.cells.1 g' _ hg').trans h4'
        have y5 := (hq.bl.cells.1 g' _ hg').trans h5'
        clear h1 h2 h3 h4 h5 h1' h2' h3' h4' h5' hA hB
        have hnq := fun W => neq_ent a[k] b[k] W
        unfold enV at hnq
        have hmm : Tryz.prog.eqGuardType Tryz.prog.depth 36 = false := by kernel_rfl
        by_cases he : a[k] = b[k]
        · have hne : decide (a[k] ≠ b[k]) = false := by simp [he]
          have HE := Lib.hid he
          clear he
          go_wp2_with (go_quiet (fail))
          go_roundw
          case rel =>
            refine ⟨k + 1, by omega, by go_num, Lib.hid (fun j h1 h2 hj => ?_), hq.drewN _⟩
            by_cases e : j = k
            · subst e; exact HE.out
            · exact HP.out j h1 h2 (by omega)
          case measure => simp [intOf]; omega
        · have hne : decide (a[k] ≠ b[k]) = true := by simp [he]
          have HE := Lib.hid (list_ne k hlt hltb he)
          clear he
          go_wp2_with (go_quiet (fail))
          go_ret
          exact ⟨ret_bool (by rw [decide_eq_false HE.out]), hq.drewN _⟩
      · have HE := Lib.hid (list_eq HL.out (fun j h1 h2 => HP.out j h1 h2 (by omega)))
        go_wp2
        go_ret
        exact ⟨ret_bool (by rw [HE.out]; simp), hq⟩
  · have hlen' : ((a.length : Int) != (b.length : Int)) = true := by simp; omega
    have HL := Lib.hid hlen
    clear hlen
    go_enter Tryz.func12, Tryz.ntmps12
    go_wp2
    go_ret
    exact ⟨ret_bool (by rw [decide_eq_false (fun h => HL.out (by rw [h]))]), Qt.refl _⟩
set_option maxHeartbeats 2000000 in
theorem sameT_c (a b : List Nm) (va vb : Value) (hl : a.length ≤ 1099511627776) (w : World) (hA : StS w va a) (hB : StS w vb b) :
    Calls Tryz.prog 21 #[va, vb] w fun e w' => e = .returned (.bool (decide (a = b))) ∧ Qt w w' := by
  obtain ⟨ao, ca, rfl, hca, hA⟩ := hA
  obtain ⟨bo, cb, rfl, hcb, hB⟩ := hB
  by_cases hlen : a.length = b.length
  · have hlen' : ((a.length : Int) != (b.length : Int)) = false := by simp [hlen]
    have HL := Lib.hid hlen
    have hl2 : b.length ≤ 1099511627776 := by omega
    go_enter Tryz.func21, Tryz.ntmps21
    clear hlen
    go_wp2
    go_loopw [5] (fun i wr => ∃ k : Nat, k ≤ a.length ∧ i = .int .i64 k ∧ Hid (∀ j (h1 : j < a.length) (h2 : j < b.length), j < k → a[j] = b[j]) ∧ Qt w wr) (fun i _ => a.length - (intOf i).toNat)
    case atStart => exact ⟨0, Nat.zero_le _, rfl, Lib.hid (fun j _ _ h => by omega), Qt.refl _⟩
    case round =>
      obtain ⟨k, hk, rfl, HP, hq⟩ := hrel
      by_cases hlt : k < a.length
      · have hltb : k < b.length := by have := HL.out; omega
        have hltb' : (k : Int) < (b.length : Int) := by omega
        obtain ⟨g, o, rfl, hg, h1⟩ := hA k hlt
        obtain ⟨g', o', rfl, hg', h1'⟩ := hB k hltb
        have x1 := (hq.bl.cells.1 g _ hg).trans h1
        have y1 := (hq.bl.cells.1 g' _ hg').trans h1'
        clear h1 h1' hA hB
        by_cases he : a[k] = b[k]
        · have hne : (a[k] == b[k]) = true := by simp [he]
          have HE := Lib.hid he
          clear he
          go_wp2_with (go_quiet (fail))
          go_roundw
          case rel =>
            refine ⟨k + 1, by omega, by go_num, Lib.hid (fun j h1 h2 hj => ?_), hq.drewN _⟩
            by_cases e : j = k
            · subst e; exact HE.out
            · exact HP.out j h1 h2 (by omega)
          case measure => simp [intOf]; omega
        · have hne : (a[k] == b[k]) = false := by simpa using he
          have HE := Lib.hid (list_ne k hlt hltb he)
          clear he
          go_wp2_with (go_quiet (fail))
          go_ret
          exact ⟨ret_bool (by rw [decide_eq_false HE.out]), hq.drewN _⟩
      · have HE := Lib.hid (list_eq HL.out (fun j h1 h2 => HP.out j h1 h2 (by omega)))
        go_wp2
        go_ret
        exact ⟨ret_bool (by rw [HE.out]; simp), hq⟩
  · have hlen' : ((a.length : Int) != (b.length : Int)) = true := by simp; omega
    have HL := Lib.hid hlen
    clear hlen
    go_enter Tryz.func21, Tryz.ntmps21
    go_wp2
    go_ret
    exact ⟨ret_bool (by rw [decide_eq_false (fun h => HL.out (by rw [h]))]), Qt.refl _⟩
set_option maxHeartbeats 2000000 in
theorem sameSh_c (a b : Shf) (va vb : Value) (hl : a.1.length ≤ 1099511627776) (hl2 : a.2.length ≤ 1099511627776) (w : World) (hA : ShS w va a) (hB : ShS w vb b) :
    Calls Tryz.prog 22 #[va, vb] w fun e w' => e = .returned (.bool (decide (a.1 = b.1 ∧ a.2 = b.2))) ∧ Bl w w' := by
  obtain ⟨va1, va2, rfl, hA1, hA2⟩ := hA
  obtain ⟨vb1, vb2, rfl, hB1, hB2⟩ := hB
  have EC := Lib.hid (fun W (hh : Bl w W) => sameE_c a.1 b.1 va1 vb1 hl W (hA1.of_bl hh) (hB1.of_bl hh))
  have TC := Lib.hid (fun W (hh : Bl w W) => sameT_c a.2 b.2 va2 vb2 hl2 W (hA2.of_bl hh) (hB2.of_bl hh))
  obtain ⟨a1, c1, rfl, -, -⟩ := hA1
  obtain ⟨a2, c2, rfl, -, -⟩ := hA2
  obtain ⟨a3, c3, rfl, -, -⟩ := hB1
  obtain ⟨a4, c4, rfl, -, -⟩ := hB2
  by_cases h1 : a.1 = b.1
  · have HE := Lib.hid (show decide (a.1 = b.1 ∧ a.2 = b.2) = decide (a.2 = b.2) from by
      rw [decide_eq_decide]
      exact ⟨fun h => h.2, fun h => ⟨h1, h⟩⟩)
    rw [decide_eq_true h1] at EC
    clear h1
    go_enter Tryz.func22, Tryz.ntmps22
    go_wp2_with (first | (go_at_call 12; (with_reducible refine (EC.out _ (by repeat (first | exact Bl.refl _ | refine Bl.drew ?_ | refine Bl.drewN ?_ _ | refine Bl.alloc ?_ _))).mono ?_); rintro e w' ⟨rfl, n, rfl⟩) | (go_at_call 21; (with_reducible refine (TC.out _ (by repeat (first | exact Bl.refl _ | refine Bl.drew ?_ | refine Bl.drewN ?_ _ | refine Bl.alloc ?_ _))).mono ?_); rintro e w' ⟨rfl, n2, rfl⟩))
    all_goals
      go_ret
      exact ⟨ret_bool (by rw [HE.out]), (by repeat (first | exact Bl.refl _ | refine Bl.drew ?_ | refine Bl.drewN ?_ _ | refine Bl.alloc ?_ _))⟩
  · have HE := Lib.hid (show decide (a.1 = b.1 ∧ a.2 = b.2) = false from decide_eq_false (fun h => h1 h.1))
    rw [decide_eq_false h1] at EC
    clear h1
    go_enter Tryz.func22, Tryz.ntmps22
    go_wp2_with (go_at_call 12; (with_reducible refine (EC.out _ (by repeat (first | exact Bl.refl _ | refine Bl.drew ?_ | refine Bl.drewN ?_ _ | refine Bl.alloc ?_ _))).mono ?_); rintro e w' ⟨rfl, n, rfl⟩)
    all_goals
      go_ret
      exact ⟨ret_bool (by rw [HE.out]), (by repeat (first | exact Bl.refl _ | refine Bl.drew ?_ | refine Bl.drewN ?_ _ | refine Bl.alloc ?_ _))⟩
end Go.Proofs.YthnpljkekhieiaaGreatDoor

namespace Go.Proofs.YthnpljkekhieiaaGreatDoor
open Go.RowKit

def rackE : Ent := ([98], [78, 101, 119], [], 9, [60, 98, 62, 120, 60, 47, 98, 62, 121])
def rackF : Ent := ([97], [], [], 5, [])
def rackS : Shf := ([rackE, rackF], [[97]])
def newC : Ent := ([99], [], [], 7, [])
def newB : Ent := ([98], [], [], 8, [])
theorem r1 : chkE rackE = 0 := by decide +kernel
theorem r2 : chkE rackF = 0 := by decide +kernel
theorem r3 : chkE newC = 0 := by decide +kernel
theorem r4 : chkE newB = 0 := by decide +kernel
theorem r5 : ckS rackS = 0 := by decide +kernel
theorem r6 : putC rackS [newC, newB] = 0 := by decide +kernel
theorem r7 : putL rackS [newC, newB] = [rackE, newC, rackF] := by decide +kernel
theorem r8 : putN rackS [newC, newB] = 1 := by decide +kernel
theorem r9 : mkC rackS [98] true = 0 := by decide +kernel
theorem r10 : mkR rackS [98] true = [[97], [98]] := by decide +kernel
theorem r11 : drL rackS = [rackE] := by decide +kernel
theorem r12 : unL rackS = [[98]] := by decide +kernel
/-- What coming answers, in one word. -/
def putS (s : Shf) (l : List Ent) : Shf := if putC s l = 0 then (putL s l, s.2) else ([], [])
def putM (s : Shf) (l : List Ent) : Int := if putC s l = 0 then putN s l else 0
theorem shs_nil (w : World) : ShS w (.agg #[.slice none 0 0, .slice none 0 0]) ([], []) := ⟨_, _, rfl, EnS.nil w, ⟨none, 0, rfl, Nat.le_refl _, fun i hi => absurd hi (by simp)⟩⟩
theorem PutS_c (s : Shf) (v va : Value) (l : List Ent) (hI : ∀ x ∈ s.1, (eI x).length ≤ 9223372036854775807) (hl : l.length ≤ 9223372036854775807) (w : World) (hE : ES w) (hM : ML w) (hS : ShS w v s) (hA : EnS w va l) :
    Calls Tryz.prog 13 #[v, va] w fun e w' => ∃ sv, e = .returned (.tuple #[sv, .int .i64 (putM s l), .int .i64 (putC s l)]) ∧ ShS w' sv (putS s l) ∧ Bl w w' := by
  by_cases hc : putC s l = 0
  · refine (Put_ok s v va l hI hc w hE hM hS hA).mono ?_
    rintro e w' ⟨sv, rfl, h1, h2⟩
    exact ⟨sv, by unfold putM; rw [if_pos hc, hc], by unfold putS; rw [if_pos hc]; exact h1, h2⟩
  · refine (Put_bad s v va l hI hl hc w hE hM hS hA).mono ?_
    rintro e w' ⟨rfl, h2⟩
    exact ⟨_, by unfold putM; rw [if_neg hc], by unfold putS; rw [if_neg hc]; exact shs_nil _, h2⟩
def mkS (s : Shf) (i : Nm) (b : Bool) : Shf := if mkC s i b = 0 then (s.1, mkR s i b) else ([], [])
theorem MarkS_c (s : Shf) (v : Value) (i : Nm) (b : Bool) (hI : ∀ x ∈ s.1, (eI x).length ≤ 9223372036854775807) (w : World) (hE : ES w) (hM : ML w) (hS : ShS w v s) :
    Calls Tryz.prog 8 #[v, .string ⟨i.toArray⟩, .bool b] w fun e w' => ∃ sv, e = .returned (.tuple #[sv, .int .i64 (mkC s i b)]) ∧ ShS w' sv (mkS s i b) ∧ Bl w w' := by
  have bad : ∀ c, c ≠ 0 → mkC s i b = c → (Calls Tryz.prog 8 #[v, .string ⟨i.toArray⟩, .bool b] w fun e w' => e = .returned (.tuple #[.agg #[.slice none 0 0, .slice none 0 0], .int .i64 c]) ∧ Bl w w') →
      Calls Tryz.prog 8 #[v, .string ⟨i.toArray⟩, .bool b] w fun e w' => ∃ sv, e = .returned (.tuple #[sv, .int .i64 (mkC s i b)]) ∧ ShS w' sv (mkS s i b) ∧ Bl w w' := fun c h1 h2 h => by
    refine h.mono ?_
    rintro e w' ⟨rfl, hb⟩
    exact ⟨_, by rw [h2], by unfold mkS; rw [if_neg (by rw [h2]; exact h1)]; exact shs_nil _, hb⟩
  have good : ∀ r, mkC s i b = 0 → mkR s i b = r → (Calls Tryz.prog 8 #[v, .string ⟨i.toArray⟩, .bool b] w fun e w' => ∃ sv, e = .returned (.tuple #[sv, .int .i64 0]) ∧ ShS w' sv (s.1, r) ∧ Bl w w') →
      Calls Tryz.prog 8 #[v, .string ⟨i.toArray⟩, .bool b] w fun e w' => ∃ sv, e = .returned (.tuple #[sv, .int .i64 (mkC s i b)]) ∧ ShS w' sv (mkS s i b) ∧ Bl w w' := fun r h1 h2 h => by
    refine h.mono ?_
    rintro e w' ⟨sv, rfl, hs, hb⟩
    exact ⟨sv, by rw [h1], by unfold mkS; rw [if_pos h1, h2]; exact hs, hb⟩
  by_cases hck : ckS s = 0
  · cases hp : plE s.1 i with
    | none => exact bad 5 (by decide) (by unfold mkC; rw [if_neg (by rw [hck]; simp), if_pos hp]) (Mark_bad2 s v i hI b hck hp w hE hM hS)
    | some k =>
      have hc0 : ∀ q : Prop, [Decidable q] → (if ckS s ≠ 0 then ckS s else if plE s.1 i = none then 5 else if q then (2 : Int) else 0) = if q then 2 else 0 := fun q _ => by rw [if_neg (by rw [hck]; simp), if_neg (by rw [hp]; simp)]
      cases b with
      | true =>
        cases hfn : fnT s.2 i with
        | false =>
          by_cases hf : s.2.length = 40
          · exact bad 2 (by decide) (by unfold mkC; rw [hc0, if_pos ⟨rfl, hfn, hf⟩]) (Mark_bad3 s v i hI k hck hp hfn hf w hE hM hS)
          · exact good _ (by unfold mkC; rw [hc0, if_neg (fun h => hf h.2.2)]) (by unfold mkR; rw [if_pos rfl, if_neg (by rw [hfn]; simp)]) (Mark_ins s v i hI k hck hp hfn hf w hE hM hS)
        | true => exact good _ (by unfold mkC; rw [hc0, if_neg (fun h => by rw [hfn] at h; exact absurd h.2.1 (by simp))]) (by unfold mkR; rw [if_pos rfl, if_pos hfn]) (Mark_same1 s v i hI k hck hp hfn w hE hM hS)
      | false =>
        have hm : mkC s i false = 0 := by unfold mkC; rw [hc0, if_neg (fun h => absurd h.1 (by simp))]
        cases hfn : fnT s.2 i with
        | true => exact good _ hm (by unfold mkR; rw [if_neg (by simp), if_pos hfn]) (Mark_del s v i hI k hck hp hfn w hE hM hS)
        | false => exact good _ hm (by unfold mkR; rw [if_neg (by simp), if_neg (by rw [hfn]; simp)]) (Mark_same2 s v i hI k hck hp hfn w hE hM hS)
  · exact bad (ckS s) hck (by unfold mkC; rw [if_pos hck]) (Mark_bad1 s v i hI b hck w hE hM hS)
def drS (s : Shf) : Shf := if ckS s = 0 then (drL s, s.2) else ([], [])
def drN (s : Shf) : Int := if ckS s = 0 then (s.1.length : Int) - (drL s).length else 0
theorem DropS_c (s : Shf) (v : Value) (hI : ∀ x ∈ s.1, (eI x).length ≤ 9223372036854775807) (w : World) (hE : ES w) (hM : ML w) (hS : ShS w v s) :
    Calls Tryz.prog 10 #[v] w fun e w' => ∃ sv, e = .returned (.tuple #[sv, .int .i64 (drN s), .int .i64 (ckS s)]) ∧ ShS w' sv (drS s) ∧ Bl w w' := by
  by_cases hc : ckS s = 0
  · refine (Drop_ok s v hI hc w hE hM hS).mono ?_
    rintro e w' ⟨sv, rfl, h1, h2⟩
    exact ⟨sv, by unfold drN; rw [if_pos hc, hc], by unfold drS; rw [if_pos hc]; exact h1, h2⟩
  · refine (Drop_bad s v hI hc w hE hM hS).mono ?_
    rintro e w' ⟨rfl, h2⟩
    exact ⟨_, by unfold drN; rw [if_neg hc], by unfold drS; rw [if_neg hc]; exact shs_nil _, h2⟩
def unS (s : Shf) : List Nm := if ckS s = 0 then unL s else []
theorem UnreadS_c (s : Shf) (v : Value) (hI : ∀ x ∈ s.1, (eI x).length ≤ 9223372036854775807) (w : World) (hE : ES w) (hM : ML w) (hS : ShS w v s) :
    Calls Tryz.prog 9 #[v] w fun e w' => ∃ v', e = .returned (.tuple #[v', .int .i64 (ckS s)]) ∧ StS w' v' (unS s) ∧ Bl w w' := by
  by_cases hc : ckS s = 0
  · refine (Unread_ok s v hI hc w hE hM hS).mono ?_
    rintro e w' ⟨sv, rfl, h1, h2⟩
    exact ⟨sv, by rw [hc], by unfold unS; rw [if_pos hc]; exact h1, h2⟩
  · refine (Unread_bad s v hI hc w hE hM hS).mono ?_
    rintro e w' ⟨rfl, h2⟩
    exact ⟨_, rfl, by unfold unS; rw [if_neg hc]; exact ⟨none, 0, rfl, Nat.le_refl _, fun i hi => absurd hi (by simp)⟩, h2⟩
set_option maxHeartbeats 2000000 in
theorem rack_c (w : World) : Calls Tryz.prog 23 #[] w fun e w' => ∃ sv, e = .returned sv ∧ ShS w' sv rackS ∧ Bl w w' := by
  go_enter Tryz.func23, Tryz.ntmps23
  go_wp2
  have h0 := heap_alloc_new w (.cells #[.slice (some ⟨w.heap.size + 1, 0, none⟩) 2 2, .slice (some ⟨w.heap.size + 1 + 1, 0, none⟩) 1 1] 25)
  have h1 := heap_alloc_new (w.alloc (.cells #[.slice (some ⟨w.heap.size + 1, 0, none⟩) 2 2, .slice (some ⟨w.heap.size + 1 + 1, 0, none⟩) 1 1] 25)) (.cells (enW [rackE, rackF]).toArray 36)
  have h2 := heap_alloc_new ((w.alloc (.cells #[.slice (some ⟨w.heap.size + 1, 0, none⟩) 2 2, .slice (some ⟨w.heap.size + 1 + 1, 0, none⟩) 1 1] 25)).alloc (.cells (enW [rackE, rackF]).toArray 36)) (.cells #[.string ⟨#[97]⟩] 9)
  have b1 : ∀ o o', Bl (w.alloc o) ((w.alloc o).alloc o') := fun o o' => (Bl.refl _).alloc o'
  have g0 := keep_bl (keep_bl h0 ((Bl.refl _).alloc (.cells (enW [rackE, rackF]).toArray 36))) ((Bl.refl _).alloc (.cells #[.string ⟨#[97]⟩] 9))
  have g1 := keep_bl h1 ((Bl.refl _).alloc (.cells #[.string ⟨#[97]⟩] 9))
  have e1 : (w.alloc (.cells #[.slice (some ⟨w.heap.size + 1, 0, none⟩) 2 2, .slice (some ⟨w.heap.size + 1 + 1, 0, none⟩) 1 1] 25)).heap.size = w.heap.size + 1 := by simp
  have e2 : ((w.alloc (.cells #[.slice (some ⟨w.heap.size + 1, 0, none⟩) 2 2, .slice (some ⟨w.heap.size + 1 + 1, 0, none⟩) 1 1] 25)).alloc (.cells (enW [rackE, rackF]).toArray 36)).heap.size = w.heap.size + 1 + 1 := by simp
  rw [e1] at g1
  rw [e2] at h2
  refine bodyPost_ret (results_cell_row rfl _ _ w.heap.size 25 #[.slice (some ⟨w.heap.size + 1, 0, none⟩) 2 2, .slice (some ⟨w.heap.size + 1 + 1, 0, none⟩) 1 1] (0, 0) _ rfl g0 Tryz.underlying25 rfl Tryz.infoShf) rfl ?_
  refine ⟨_, rfl, ⟨_, _, rfl, EnS.of_cells (l := [rackE, rackF]) rfl (by decide) (Array.getElem?_eq_some_iff.1 g1).1 (fun j u hj => ?_), ⟨some ⟨w.heap.size + 1 + 1, 0, none⟩, 1, rfl, Nat.le_refl _, fun i hi => ⟨_, _, rfl, (Array.getElem?_eq_some_iff.1 h2).1, ?_⟩⟩⟩, (((Bl.refl _).alloc _).alloc _).alloc _⟩
  · exact (cell_of_row g1).trans (by rw [Nat.zero_add]; simpa using hj)
  · have hi : i < 1 := hi
    obtain rfl : i = 0 := by omega
    exact cell_of_row h2
end Go.Proofs.YthnpljkekhieiaaGreatDoor

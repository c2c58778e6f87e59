/- Documents: attributes that are read. -/
import Derived.Test.YtkacjnifhmgeiaaGreatDoorGrpL
import Derived.Test.YtkacjnifhmgeiaaGreatDoorGrpI
import Derived.BigRegion
namespace Go.Proofs.YtkacjnifhmgeiaaGreatDoor
open Go.RowKit

section
variable {P : Program} {ops : Array Oper} {Q : Exit → Act → World → Prop} {a : Act} {w : World}
theorem wp_region_fuel {id : Nat} (n : Nat) (hm : P.follows .mixedOrders = true) (hn : ops.size = n) (h : wpAny P .any ops Q n (Array.replicate n false) a w.drew) : (Code.region id ops true).wp P Q a w := by
  subst hn; exact wp_region_any hm h
/-- One operation that must come next. -/
theorem wpAny_one {i : Nat} {o : Oper} {fuel : Nat} {listed : Array Bool} (hr : Region.ready .any ops listed = [i]) (ho : ops[i]? = some o) (hg : o.guard = none)
    (h : ∀ K' : Act → World → Prop, (∀ a w, wpAny P .any ops Q fuel (listed.setIfInBounds i true) a w → K' a w) → o.wp P a w K' Q) : wpAny P .any ops Q (fuel + 1) listed a w := by
  refine wpAny_ready hr (by simp) (AllReady.cons ho (fun K' hK' => ?_) AllReady.nil)
  rw [if_pos (by simp [Region.wanted, hg])]
  exact h K' hK'
/-- The rest of a region only reads. -/
theorem wpAny_quiet (k n : Nat) {listed : Array Bool} (hs : Region.noSelect ops = true) (hk : (ops.toList.drop k).length = n) (hB : Region.lexFrom .any ops n k listed = true)
    (h : wpQuiet P ops (fun w' => ∃ m, w' = w.drewN m) (fun a' => ∀ w', (∃ m, w' = w.drewN m) → Q .normal a' w') (ops.toList.drop k) a) : wpAny P .any ops Q n listed a w := by
  refine wpAny_of_quiet (C := fun w' => ∃ m, w' = w.drewN m) (Q := fun a' => ∀ w', (∃ m, w' = w.drewN m) → Q .normal a' w') (fun _ w' hw' h => h w' hw') n listed a w ⟨0, rfl⟩ ?_
  have := wpAnyQ_lex (P := P) (md := .any) (C := fun w' => ∃ m, w' = w.drewN m) hs (ops.toList.drop k) k listed a (fun j => by simp) (by rw [hk]; exact hB) h
  rw [hk] at this
  exact this
theorem wpAny_quiet4 {o0 o1 o2 o3 : Oper} {l : List Oper} (n : Nat) {listed : Array Bool} (hs : Region.noSelect (o0 :: o1 :: o2 :: o3 :: l).toArray = true) (hk : l.length = n) (hB : Region.lexFrom .any (o0 :: o1 :: o2 :: o3 :: l).toArray n 4 listed = true)
    (h : wpQuiet P (o0 :: o1 :: o2 :: o3 :: l).toArray (fun w' => ∃ m, w' = w.drewN m) (fun a' => ∀ w', (∃ m, w' = w.drewN m) → Q .normal a' w') l a) : wpAny P .any (o0 :: o1 :: o2 :: o3 :: l).toArray Q n listed a w :=
  wpAny_quiet 4 n hs hk hB h
end

/-- How attrs ends. -/
def AxEnd (w0 : World) (b : Nat) (s : List UInt8) (R : Except Int (List Atr × List UInt8)) (e : Ending) (w' : World) : Prop :=
  w0.grownBy w' (some b) ∧ match R with
    | .error n => e = .panicked (ERN n)
    | .ok (l, u) => ∃ va, e = .returned va ∧ AtO w' w0.heap.size va l ∧ Xr w' b s u
theorem contains_c (l : List UInt8) (w : World) :
    Calls Tryz.prog 80 #[.string ⟨l.toArray⟩, .string ⟨#[60]⟩] w fun e w' => e = .returned (.bool (decide (60 ∈ l))) ∧ w = w' := by
  refine (Tryz.strings_Contains_one ⟨l.toArray⟩ 60 w).mono ?_
  rintro e w' ⟨rfl, rfl⟩
  refine ⟨ret_bool ?_, rfl⟩
  show decide (0 ≤ Lib.indexByte l 60) = _
  rcases ixb 60 l with ⟨h1, h2, _⟩ | ⟨h1, h2, _⟩
  · rw [h2]; simp [h1]
  · rw [h2]; simp [h1]
theorem app_meetX {w w8 wz : World} {b : Nat} {s u : List UInt8} {va v' : Value} {out : List Atr} {a : Atr} {o : Obj} (hR8 : Xr w8 b s u) (hO8 : AtO w8 w.heap.size va out) (hgw : w.grownBy w8 (some b)) (hb : b < w.heap.size)
    (hown' : wz.ownsRow w.heap.size 39 2 v' (out.length + 1) (atC out ++ [.string ⟨a.1.toArray⟩, .string ⟨a.2.toArray⟩])) (hgrow : (w8.alloc o).grownBy wz va.ownBlock) :
    AtO wz w.heap.size v' (out ++ [a]) ∧ Xr wz b s u ∧ w.grownBy wz (some b) := by
  have hlt := World.ownsRow.lt hO8
  refine ⟨?_, (hR8.of_bl ((Bl.refl w8).alloc o)).of_gb hgrow ?_, gb_fresh (gb_trans hgw (gb_bl ((Bl.refl w8).alloc o))) hgrow (fun k hk => (hlt k hk).1)⟩
  · unfold AtO; rw [atC_snoc, List.length_append]; exact hown'
  · intro e; have := (hlt b e.symm).1; omega
theorem ab_new (w : World) (n : List UInt8) : Ab (w.alloc (.cells #[.string ⟨n.toArray⟩, .string ⟨#[]⟩] 39)) w.heap.size n [] := ⟨by simp, by simp, by simp, by simp, by simp⟩
theorem Xr.far {w : World} {b q o : Nat} {s t : List UInt8} {u : Value} (h : Xr w b s t) (hne : b ≠ q) : Xr (w.setCell ⟨q, o, none⟩ u) b s t := h.of_gb (gb_set (gb_refl _ _) o u) (by simp; exact hne)

set_option maxRecDepth 100000 in
set_option maxHeartbeats 16000000 in
theorem attrsX_c (b : Nat) (s t : List UInt8) (w : World) (hR : Xr w b s t) (hs : s.length ≤ 1073741824) (hE : ES w) (hbE : 1 < b) (hM : ML w) (hbM : 0 < b) :
    Calls Tryz.prog 62 #[.pointer (some ⟨b, 0, none⟩)] w fun e w' => AxEnd w b s (atrX t) e w' := by
  obtain ⟨i0, hi, hz0, hz1, hz2⟩ := info_parts Tryz.infoAtr
  have hbw := hR.rk.lt
  go_enter Tryz.func62, Tryz.ntmps62
  go_wp2
  go_loopw [3] (fun va wr => ∃ (t' : List UInt8) (out : List Atr) (j : Nat), Hid (atrX t = asF j t' out) ∧ t'.length ≤ j ∧ AtO wr w.heap.size va out ∧ Xr wr b s t' ∧ w.grownBy wr (some b) ∧ out.length + t'.length ≤ s.length ∧ Hid (∀ a ∈ out, a.1.length ≤ s.length)) (fun _ wr => s.length - atOf b wr)
  case atStart => exact ⟨t, [], t.length, Lib.hid rfl, Nat.le_refl _, World.ownsRow_nil _ _ _ _, hR, gb_refl _ _, by have := hR.len; simpa using this, Lib.hid (fun a h => by cases h)⟩
  case round =>
    obtain ⟨t', out, j, HA, hj, hO, hRr, hg, hol, HNL⟩ := hrel
    have hmeas := hRr.meas
    have hbr := hRr.rk.lt
    have hlt' := hRr.len
    have hwl := wsX_len t'
    have HE := Lib.hid (asF_eq j t' out hj)
    have WC := Lib.hid (fun W h => whiteX_c b s t' W h (by omega))
    by_cases hw : (wsX t').length < t'.length
    · have hpos : (0 : Int) < ((t'.length - (wsX t').length : Nat) : Int) := by omega
      obtain ⟨cn, hcn⟩ : ∃ cn, cn = t'.length - (wsX t').length := ⟨_, rfl⟩
      have hposN : 0 < cn := by omega
      rw [← hcn] at WC hpos
      clear hcn
      obtain ⟨k, hk⟩ : ∃ k, k = s.length - (wsX t').length := ⟨_, rfl⟩
      have HK := Lib.hid hk
      obtain ⟨u, hu⟩ : ∃ u, u = wsX t' := ⟨_, rfl⟩
      have husf : u <:+ s := by rw [hu]; exact (List.dropWhile_suffix blk).trans hRr.sf
      rw [← hu] at HE WC hwl hw hk HK
      cases u with
      | nil =>
        have HR := Lib.hid (show atrX t = .ok (out, []) by rw [HA.out, HE.out, if_neg (by simp)])
        have h0 : decide ((k : Int) < (s.length : Int)) = false := by simp [hk]
        have h0n : decide (k < s.length) = false := by simp [hk]
        clear HE hk hu
        go_wp2_with fail
        refine wp_region_fuel 27 (by kernel_rfl) (by rfl) ?_
        refine wpAny_one (i := 0) (by kernel_rfl) rfl rfl (fun K' hK' => ?_)
        go_simp
        refine hK' _ _ ?_
        clear hK' K'
        refine wpAny_one (i := 1) (by kernel_rfl) rfl rfl (fun K' hK' => ?_)
        go_simp
        go_at_call 58
        (with_reducible refine (WC.out _ (hRr.of_bl (Bl.refl _).drew)).mono ?_)
        rintro e w1 ⟨rfl, hR1, hg1⟩
        obtain ⟨c0, c1, f0, f1⟩ := hR1.at_ HK.out
        have hg1' : wr.grownBy w1 (some b) := gb_trans (gb_bl (Bl.refl _).drew) hg1
        refine hK' _ _ ?_
        clear hK' K'
        refine wpAny_one (i := 2) (by kernel_rfl) rfl rfl (fun K' hK' => ?_)
        go_simp
        refine hK' _ _ ?_
        clear hK' K'
        refine wpAny_one (i := 3) (by kernel_rfl) rfl rfl (fun K' hK' => ?_)
        go_simp
        refine hK' _ _ ?_
        clear hK' K'
        refine wpAny_quiet4 23 (by kernel_rfl) (by rfl) (by kernel_rfl) ?_
        repeat (go_big_quiet_step (fail))
        refine wpQuiet_nil ?_
        rintro _ ⟨nq, rfl⟩
        have hRq := hR1.of_bl ((Bl.refl _).drewN nq)
        have hgq := gb_drewN hg1' nq
        go_wp2
        go_ret
        refine ⟨gb_trans hg hgq, ?_⟩
        rw [HR.out]
        exact ⟨_, rfl, hO.of_gb hgq hbw, hRq⟩
      | cons c r =>
        have hln := husf.length_le
        simp only [List.length_cons] at hln
        have hks : (k : Int) < (s.length : Int) := by simp only [List.length_cons] at hk; omega
        have hks' : k < s.length := by omega
        have hsk : s[k] = c := by
          have := List.drop_eq_getElem_cons hks'
          rw [show s.drop k = c :: r by rw [hk]; exact sfx_drop husf] at this
          exact (List.cons.inj this).1.symm
        have TB := Lib.hid (fun W => titleByte_c s[k] true W)
        rw [hsk, show tiBy true c = tiB1 c from rfl, ← hsk] at TB
        cases hc : tiB1 c with
        | false =>
          have HR := Lib.hid (show atrX t = .ok (out, c :: r) by rw [HA.out, HE.out, if_neg (by simp [hc])])
          rw [hsk, hc, ← hsk] at TB
          clear HE hk hu hsk hc
          go_wp2_with fail
          refine wp_region_fuel 27 (by kernel_rfl) (by rfl) ?_
          refine wpAny_one (i := 0) (by kernel_rfl) rfl rfl (fun K' hK' => ?_)
          go_simp
          refine hK' _ _ ?_
          clear hK' K'
          refine wpAny_one (i := 1) (by kernel_rfl) rfl rfl (fun K' hK' => ?_)
          go_simp
          go_at_call 58
          (with_reducible refine (WC.out _ (hRr.of_bl (Bl.refl _).drew)).mono ?_)
          rintro e w1 ⟨rfl, hR1, hg1⟩
          obtain ⟨c0, c1, f0, f1⟩ := hR1.at_ HK.out
          have hg1' : wr.grownBy w1 (some b) := gb_trans (gb_bl (Bl.refl _).drew) hg1
          refine hK' _ _ ?_
          clear hK' K'
          refine wpAny_one (i := 2) (by kernel_rfl) rfl rfl (fun K' hK' => ?_)
          go_simp
          refine hK' _ _ ?_
          clear hK' K'
          refine wpAny_one (i := 3) (by kernel_rfl) rfl rfl (fun K' hK' => ?_)
          go_simp
          refine hK' _ _ ?_
          clear hK' K'
          refine wpAny_quiet4 23 (by kernel_rfl) (by rfl) (by kernel_rfl) ?_
          repeat (go_big_quiet_step (first | (go_at_call 69; (with_reducible exact quiet_eq (TB.out _)))))
          refine wpQuiet_nil ?_
          rintro _ ⟨nq, rfl⟩
          have hRq := hR1.of_bl ((Bl.refl _).drewN nq)
          have hgq := gb_drewN hg1' nq
          go_wp2
          go_ret
          refine ⟨gb_trans hg hgq, ?_⟩
          rw [HR.out]
          exact ⟨_, rfl, hO.of_gb hgq hbw, hRq⟩
        | true =>
          have HE2 := Lib.hid (show atrX t = _ from by rw [HA.out, HE.out, if_pos ⟨hw, by simp [hc]⟩])
          rw [hsk, hc, ← hsk] at TB
          clear HE hk hsk hc
          go_wp2_with fail
          refine wp_region_fuel 27 (by kernel_rfl) (by rfl) ?_
          refine wpAny_one (i := 0) (by kernel_rfl) rfl rfl (fun K' hK' => ?_)
          go_simp
          refine hK' _ _ ?_
          clear hK' K'
          refine wpAny_one (i := 1) (by kernel_rfl) rfl rfl (fun K' hK' => ?_)
          go_simp
          go_at_call 58
          (with_reducible refine (WC.out _ (hRr.of_bl (Bl.refl _).drew)).mono ?_)
          rintro e w1 ⟨rfl, hR1, hg1⟩
          obtain ⟨c0, c1, f0, f1⟩ := hR1.at_ HK.out
          have hg1' : wr.grownBy w1 (some b) := gb_trans (gb_bl (Bl.refl _).drew) hg1
          refine hK' _ _ ?_
          clear hK' K'
          refine wpAny_one (i := 2) (by kernel_rfl) rfl rfl (fun K' hK' => ?_)
          go_simp
          refine hK' _ _ ?_
          clear hK' K'
          refine wpAny_one (i := 3) (by kernel_rfl) rfl rfl (fun K' hK' => ?_)
          go_simp
          refine hK' _ _ ?_
          clear hK' K'
          refine wpAny_quiet4 23 (by kernel_rfl) (by rfl) (by kernel_rfl) ?_
          repeat (go_big_quiet_step (first | (go_at_call 69; (with_reducible exact quiet_eq (TB.out _)))))
          refine wpQuiet_nil ?_
          rintro _ ⟨nq, rfl⟩
          have hRq := hR1.of_bl ((Bl.refl _).drewN nq)
          have hgq := gb_drewN hg1' nq
          clear TB WC c0 c1 f0 f1 hR1 hg1 hg1'
          obtain ⟨u, hu2⟩ : ∃ u, u = c :: r := ⟨_, rfl⟩
          have hul : u.length < t'.length := by rw [hu2]; exact hw
          rw [← hu2] at HE2 hRq
          clear hu hu2 husf hln HK
          have TX := Lib.hid (fun W h => titleX_c b s u W h (by omega))
          cases hT : tiX u with
          | error n =>
            rw [hT] at TX HE2
            clear hT
            go_wp2_with (go_at_call 61; (with_reducible refine (TX.out _ hRq).mono ?_); rintro e w2 ⟨hg2, rfl⟩)
            refine ⟨rfl, gb_trans hg (gb_trans hgq hg2), ?_⟩
            rw [HE2.out]
          | ok nt =>
            obtain ⟨n, t1⟩ := nt
            rw [hT] at TX HE2
            obtain ⟨htl, hti⟩ := tiX_len hT
            clear hT
            have W1 := Lib.hid (fun W h => whiteX_c b s t1 W h (by omega))
            have HE3 := Lib.hid (fun e (h : vaX t1 = .error e) => show atrX t = .error e by rw [HE2.out]; simp only [h])
            have HE4 := Lib.hid (fun v r (h : vaX t1 = .ok (v, r)) => show atrX t = if atX (out ++ [(n, v)]) ≠ 0 then .error 6 else asF (j - 1) r (out ++ [(n, v)]) by rw [HE2.out]; simp only [h])
            have HV := Lib.hid (vaX_eq t1)
            have HVL := Lib.hid (fun v r (h : vaX t1 = .ok (v, r)) => vaX_len h)
            obtain ⟨a1, ha1⟩ : ∃ a1, a1 = wsX t1 := ⟨_, rfl⟩
            have ha1l : a1.length ≤ t1.length := by rw [ha1]; exact wsX_len t1
            rw [← ha1] at W1 HV
            clear ha1 HE2
            cases h1 : pre [61] a1 with
            | false =>
              have ER := Lib.hid (HE3.out 1 (by rw [HV.out, if_pos h1]))
              have NC := Lib.hid (fun W h => needX_no [61] b s a1 W h (by omega) h1)
              clear h1
              go_wp2_with (first | (go_at_call 61; (with_reducible refine (TX.out _ hRq).mono ?_); rintro e w2 ⟨hg2, rfl, hR2⟩; have hg3 := gb_trans hgq (gb_trans hg2 (gb_bl ((Bl.refl w2).alloc (.cells #[.string ⟨n.toArray⟩, .string ⟨#[]⟩] 39)))); have hR3 : Xr (w2.alloc (.cells #[.string ⟨n.toArray⟩, .string ⟨#[]⟩] 39)) b s t1 := hR2.of_bl ((Bl.refl _).alloc _)) | (go_at_call 58; (with_reducible refine (W1.out _ hR3).mono ?_); rintro e w4 ⟨rfl, hR4, hg4⟩) | (go_at_call 60; (with_reducible refine (NC.out _ hR4).mono ?_); rintro e w5 ⟨rfl, hq5⟩))
              refine ⟨rfl, gb_trans hg (gb_trans hg3 (gb_trans hg4 (gb_qt hq5))), ?_⟩
              rw [ER.out]
            | true =>
              have HV2 := Lib.hid (show vaX t1 = _ from by rw [HV.out, if_neg (by simp [h1])])
              have NC := Lib.hid (fun W h => needX_yes [61] b s a1 W h (by omega) h1)
              simp only [List.length_singleton] at NC
              have W2 := Lib.hid (fun W h => whiteX_c b s (a1.drop 1) W h (by omega))
              obtain ⟨a2, ha2⟩ : ∃ a2, a2 = wsX (a1.drop 1) := ⟨_, rfl⟩
              rw [← ha2] at HV2 W2
              have BQ := Lib.hid (fun W h => beginsX_c [39] b s a2 W h (by omega))
              have ha2l : a2.length ≤ t'.length := by
                rw [ha2]; have e1 := wsX_len (a1.drop 1); rw [List.length_drop] at e1; omega
              clear HV h1 ha2
              cases hb : pre [39] a2
              · rw [hb] at BQ HV2
                simp only [Bool.false_eq_true, if_false] at HV2
                clear hb
                cases h2 : pre [34] a2 with
                | false =>
                  have ER := Lib.hid (HE3.out 1 (by rw [HV2.out, if_pos h2]))
                  have NQ := Lib.hid (fun W h => needX_no [34] b s a2 W h (by omega) h2)
                  clear h2
                  go_wp2_with (first | (go_at_call 61; (with_reducible refine (TX.out _ hRq).mono ?_); rintro e w2 ⟨hg2, rfl, hR2⟩; have hR3 : Xr (w2.alloc (.cells #[.string ⟨n.toArray⟩, .string ⟨#[]⟩] 39)) b s t1 := hR2.of_bl ((Bl.refl _).alloc _); have hA3 := (ab_new w2 n : Ab (w2.alloc (.cells #[.string ⟨n.toArray⟩, .string ⟨#[]⟩] 39)) w2.heap.size n []); have hq2 : wr.heap.size ≤ w2.heap.size := (gb_trans hgq hg2).size; have hqb : w2.heap.size ≠ b := (by omega); have hbq : b ≠ w2.heap.size := (by omega)) | (go_at_call 58; (with_reducible refine (W1.out _ hR3).mono ?_); rintro e w4 ⟨rfl, hR4, hg4⟩) | (go_at_call 60; (with_reducible refine (NC.out _ hR4).mono ?_); rintro e w5 ⟨rfl, hR5, hg5⟩) | (go_at_call 58; (with_reducible refine (W2.out _ hR5).mono ?_); rintro e w6 ⟨rfl, hR6, hg6⟩) | (go_at_call 63; (with_reducible refine (BQ.out _ hR6).mono ?_); rintro e wc ⟨rfl, hq7⟩; have hRc := hR6.of_bl hq7.bl; have hAc := (((hA3.of_gb hg4 hqb).of_gb hg5 hqb).of_gb hg6 hqb).of_bl hq7.bl; have hgc := gb_trans (gb_trans hgq (gb_trans hg2 (gb_bl ((Bl.refl w2).alloc (.cells #[.string ⟨n.toArray⟩, .string ⟨#[]⟩] 39))))) (gb_trans hg4 (gb_trans hg5 (gb_trans hg6 (gb_qt hq7)))); have hgw := gb_trans hg hgc; have hMc := hM.of_gb hgw hbM; have hEc := hE.of_gb hgw hbE; have hOc := hO.of_gb hgc hbw) | (go_at_call 60; (with_reducible refine (NQ.out _ hRc).mono ?_); rintro e v5 ⟨rfl, kq5⟩))
                  refine ⟨rfl, gb_trans hgw (gb_qt kq5), ?_⟩
                  rw [ER.out]
                | true =>
                  have HV3 := Lib.hid (show vaX t1 = _ from by rw [HV2.out, if_neg (by simp [h2])])
                  have NQ := Lib.hid (fun W h => needX_yes [34] b s a2 W h (by omega) h2)
                  simp only [List.length_singleton] at NQ
                  clear h2 HV2
                  cases h3 : toS [34] (a2.drop 1) with
                  | none =>
                    have ER := Lib.hid (HE3.out 1 (by rw [HV3.out, h3]))
                    have TC := Lib.hid (fun W h hm => toX_no [34] (by simp) b s (a2.drop 1) W h (by omega) hm h3)
                    clear h3
                    go_wp2_with (first | (go_at_call 61; (with_reducible refine (TX.out _ hRq).mono ?_); rintro e w2 ⟨hg2, rfl, hR2⟩; have hR3 : Xr (w2.alloc (.cells #[.string ⟨n.toArray⟩, .string ⟨#[]⟩] 39)) b s t1 := hR2.of_bl ((Bl.refl _).alloc _); have hA3 := (ab_new w2 n : Ab (w2.alloc (.cells #[.string ⟨n.toArray⟩, .string ⟨#[]⟩] 39)) w2.heap.size n []); have hq2 : wr.heap.size ≤ w2.heap.size := (gb_trans hgq hg2).size; have hqb : w2.heap.size ≠ b := (by omega); have hbq : b ≠ w2.heap.size := (by omega)) | (go_at_call 58; (with_reducible refine (W1.out _ hR3).mono ?_); rintro e w4 ⟨rfl, hR4, hg4⟩) | (go_at_call 60; (with_reducible refine (NC.out _ hR4).mono ?_); rintro e w5 ⟨rfl, hR5, hg5⟩) | (go_at_call 58; (with_reducible refine (W2.out _ hR5).mono ?_); rintro e w6 ⟨rfl, hR6, hg6⟩) | (go_at_call 63; (with_reducible refine (BQ.out _ hR6).mono ?_); rintro e wc ⟨rfl, hq7⟩; have hRc := hR6.of_bl hq7.bl; have hAc := (((hA3.of_gb hg4 hqb).of_gb hg5 hqb).of_gb hg6 hqb).of_bl hq7.bl; have hgc := gb_trans (gb_trans hgq (gb_trans hg2 (gb_bl ((Bl.refl w2).alloc (.cells #[.string ⟨n.toArray⟩, .string ⟨#[]⟩] 39))))) (gb_trans hg4 (gb_trans hg5 (gb_trans hg6 (gb_qt hq7)))); have hgw := gb_trans hg hgc; have hMc := hM.of_gb hgw hbM; have hEc := hE.of_gb hgw hbE; have hOc := hO.of_gb hgc hbw) | (go_at_call 60; (with_reducible refine (NQ.out _ hRc).mono ?_); rintro e v5 ⟨rfl, kR5, kg5⟩) | (go_at_call 79; (with_reducible refine (TC.out _ kR5 (hMc.of_gb kg5 hbM)).mono ?_); rintro e v6 ⟨rfl, kq6⟩))
                    refine ⟨rfl, gb_trans hgw (gb_trans kg5 (gb_qt kq6)), ?_⟩
                    rw [ER.out]
                  | some vr =>
                    obtain ⟨v, r'⟩ := vr
                    have HV4 := Lib.hid (show vaX t1 = if 60 ∈ v then .error 1 else if (Tk v).2 then .ok ((Tk v).1, r') else .error 1 from by rw [HV3.out, h3])
                    have TC := Lib.hid (fun W h hm => toX_yes [34] (by simp) b s (a2.drop 1) v r' W h (by omega) hm h3)
                    have CC := Lib.hid (fun W => contains_c v W)
                    have hvl : v.length ≤ s.length := by
                      have e1 := (toS_some h3).2
                      have e2 := congrArg List.length e1
                      rw [List.length_take, List.length_drop] at e2
                      have := hlt'
                      omega
                    clear h3 HV3
                    by_cases h4 : 60 ∈ v
                    · have ER := Lib.hid (HE3.out 1 (by rw [HV4.out, if_pos h4]))
                      rw [decide_eq_true h4] at CC
                      clear h4
                      go_wp2_with (first | (go_at_call 61; (with_reducible refine (TX.out _ hRq).mono ?_); rintro e w2 ⟨hg2, rfl, hR2⟩; have hR3 : Xr (w2.alloc (.cells #[.string ⟨n.toArray⟩, .string ⟨#[]⟩] 39)) b s t1 := hR2.of_bl ((Bl.refl _).alloc _); have hA3 := (ab_new w2 n : Ab (w2.alloc (.cells #[.string ⟨n.toArray⟩, .string ⟨#[]⟩] 39)) w2.heap.size n []); have hq2 : wr.heap.size ≤ w2.heap.size := (gb_trans hgq hg2).size; have hqb : w2.heap.size ≠ b := (by omega); have hbq : b ≠ w2.heap.size := (by omega)) | (go_at_call 58; (with_reducible refine (W1.out _ hR3).mono ?_); rintro e w4 ⟨rfl, hR4, hg4⟩) | (go_at_call 60; (with_reducible refine (NC.out _ hR4).mono ?_); rintro e w5 ⟨rfl, hR5, hg5⟩) | (go_at_call 58; (with_reducible refine (W2.out _ hR5).mono ?_); rintro e w6 ⟨rfl, hR6, hg6⟩) | (go_at_call 63; (with_reducible refine (BQ.out _ hR6).mono ?_); rintro e wc ⟨rfl, hq7⟩; have hRc := hR6.of_bl hq7.bl; have hAc := (((hA3.of_gb hg4 hqb).of_gb hg5 hqb).of_gb hg6 hqb).of_bl hq7.bl; have hgc := gb_trans (gb_trans hgq (gb_trans hg2 (gb_bl ((Bl.refl w2).alloc (.cells #[.string ⟨n.toArray⟩, .string ⟨#[]⟩] 39))))) (gb_trans hg4 (gb_trans hg5 (gb_trans hg6 (gb_qt hq7)))); have hgw := gb_trans hg hgc; have hMc := hM.of_gb hgw hbM; have hEc := hE.of_gb hgw hbE; have hOc := hO.of_gb hgc hbw) | (go_at_call 60; (with_reducible refine (NQ.out _ hRc).mono ?_); rintro e v5 ⟨rfl, kR5, kg5⟩) | (go_at_call 79; (with_reducible refine (TC.out _ kR5 (hMc.of_gb kg5 hbM)).mono ?_); rintro e v6 ⟨rfl, kR6, kg6⟩) | (go_at_call 80; (with_reducible refine (CC.out _).mono ?_); rintro e v7 ⟨rfl, rfl⟩) | (go_at_call 37; (with_reducible refine (fail_c 1 _).mono ?_); rintro e v8 ⟨rfl, rfl⟩))
                      refine ⟨rfl, gb_trans hgw (gb_trans kg5 kg6), ?_⟩
                      rw [ER.out]
                    · rw [decide_eq_false h4] at CC
                      cases h5 : (Tk v).2 with
                      | false =>
                        have ER := Lib.hid (HE3.out 1 (by rw [HV4.out, if_neg h4, if_neg (by simp [h5])]))
                        have KC := Lib.hid (fun W h => told_no v (by omega) W h h5)
                        clear h4 h5
                        go_wp2_with (first | (go_at_call 61; (with_reducible refine (TX.out _ hRq).mono ?_); rintro e w2 ⟨hg2, rfl, hR2⟩; have hR3 : Xr (w2.alloc (.cells #[.string ⟨n.toArray⟩, .string ⟨#[]⟩] 39)) b s t1 := hR2.of_bl ((Bl.refl _).alloc _); have hA3 := (ab_new w2 n : Ab (w2.alloc (.cells #[.string ⟨n.toArray⟩, .string ⟨#[]⟩] 39)) w2.heap.size n []); have hq2 : wr.heap.size ≤ w2.heap.size := (gb_trans hgq hg2).size; have hqb : w2.heap.size ≠ b := (by omega); have hbq : b ≠ w2.heap.size := (by omega)) | (go_at_call 58; (with_reducible refine (W1.out _ hR3).mono ?_); rintro e w4 ⟨rfl, hR4, hg4⟩) | (go_at_call 60; (with_reducible refine (NC.out _ hR4).mono ?_); rintro e w5 ⟨rfl, hR5, hg5⟩) | (go_at_call 58; (with_reducible refine (W2.out _ hR5).mono ?_); rintro e w6 ⟨rfl, hR6, hg6⟩) | (go_at_call 63; (with_reducible refine (BQ.out _ hR6).mono ?_); rintro e wc ⟨rfl, hq7⟩; have hRc := hR6.of_bl hq7.bl; have hAc := (((hA3.of_gb hg4 hqb).of_gb hg5 hqb).of_gb hg6 hqb).of_bl hq7.bl; have hgc := gb_trans (gb_trans hgq (gb_trans hg2 (gb_bl ((Bl.refl w2).alloc (.cells #[.string ⟨n.toArray⟩, .string ⟨#[]⟩] 39))))) (gb_trans hg4 (gb_trans hg5 (gb_trans hg6 (gb_qt hq7)))); have hgw := gb_trans hg hgc; have hMc := hM.of_gb hgw hbM; have hEc := hE.of_gb hgw hbE; have hOc := hO.of_gb hgc hbw) | (go_at_call 60; (with_reducible refine (NQ.out _ hRc).mono ?_); rintro e v5 ⟨rfl, kR5, kg5⟩) | (go_at_call 79; (with_reducible refine (TC.out _ kR5 (hMc.of_gb kg5 hbM)).mono ?_); rintro e v6 ⟨rfl, kR6, kg6⟩) | (go_at_call 80; (with_reducible refine (CC.out _).mono ?_); rintro e v7 ⟨rfl, rfl⟩) | (go_at_call 81; (with_reducible refine (KC.out _ ((hEc.of_gb kg5 hbE).of_gb kg6 hbE)).mono ?_); rintro e v8 ⟨rfl, hb8⟩))
                        refine ⟨rfl, gb_trans hgw (gb_trans (gb_trans kg5 kg6) (gb_bl hb8)), ?_⟩
                        rw [ER.out]
                      | true =>
                        have hva : vaX t1 = .ok ((Tk v).1, r') := by rw [HV4.out, if_neg h4, if_pos h5]
                        have HG := Lib.hid (HE4.out _ _ hva)
                        have hrl := HVL.out _ _ hva
                        have KC := Lib.hid (fun W h => told_yes v (by omega) W h h5)
                        obtain ⟨y, hy⟩ : ∃ y, y = (Tk v).1 := ⟨_, rfl⟩
                        rw [← hy] at HG KC
                        clear h4 h5 hva HV4 HE3 HE4 HVL hy
                        go_wp2_with (first | (go_at_call 61; (with_reducible refine (TX.out _ hRq).mono ?_); rintro e w2 ⟨hg2, rfl, hR2⟩; have hR3 : Xr (w2.alloc (.cells #[.string ⟨n.toArray⟩, .string ⟨#[]⟩] 39)) b s t1 := hR2.of_bl ((Bl.refl _).alloc _); have hA3 := (ab_new w2 n : Ab (w2.alloc (.cells #[.string ⟨n.toArray⟩, .string ⟨#[]⟩] 39)) w2.heap.size n []); have hq2 : wr.heap.size ≤ w2.heap.size := (gb_trans hgq hg2).size; have hqb : w2.heap.size ≠ b := (by omega); have hbq : b ≠ w2.heap.size := (by omega)) | (go_at_call 58; (with_reducible refine (W1.out _ hR3).mono ?_); rintro e w4 ⟨rfl, hR4, hg4⟩) | (go_at_call 60; (with_reducible refine (NC.out _ hR4).mono ?_); rintro e w5 ⟨rfl, hR5, hg5⟩) | (go_at_call 58; (with_reducible refine (W2.out _ hR5).mono ?_); rintro e w6 ⟨rfl, hR6, hg6⟩) | (go_at_call 63; (with_reducible refine (BQ.out _ hR6).mono ?_); rintro e wc ⟨rfl, hq7⟩; have hRc := hR6.of_bl hq7.bl; have hAc := (((hA3.of_gb hg4 hqb).of_gb hg5 hqb).of_gb hg6 hqb).of_bl hq7.bl; have hgc := gb_trans (gb_trans hgq (gb_trans hg2 (gb_bl ((Bl.refl w2).alloc (.cells #[.string ⟨n.toArray⟩, .string ⟨#[]⟩] 39))))) (gb_trans hg4 (gb_trans hg5 (gb_trans hg6 (gb_qt hq7)))); have hgw := gb_trans hg hgc; have hMc := hM.of_gb hgw hbM; have hEc := hE.of_gb hgw hbE; have hOc := hO.of_gb hgc hbw) | (go_at_call 60; (with_reducible refine (NQ.out _ hRc).mono ?_); rintro e v5 ⟨rfl, kR5, kg5⟩) | (go_at_call 79; (with_reducible refine (TC.out _ kR5 (hMc.of_gb kg5 hbM)).mono ?_); rintro e v6 ⟨rfl, kR6, kg6⟩) | (go_at_call 80; (with_reducible refine (CC.out _).mono ?_); rintro e v7 ⟨rfl, rfl⟩) | (go_at_call 81; (with_reducible refine (KC.out _ ((hEc.of_gb kg5 hbE).of_gb kg6 hbE)).mono ?_); rintro e v8 ⟨rfl, hb8⟩; have hA8 := ((hAc.of_gb kg5 hqb).of_gb kg6 hqb).of_bl hb8; have hR8 := kR6.of_bl hb8; have hg8 := gb_trans (gb_trans kg5 kg6) (gb_bl (b := some b) hb8); have hO8 := hOc.of_gb hg8 hbw; have hA8b := hA8; obtain ⟨x0, x1, x2, x3, x4⟩ := hA8b; have hAt := hA8.set1 y; obtain ⟨z0, z1, z2, z3, z4⟩ := hAt) | (at_builtin; refine Hid.out ?_))
                        have hsz : (v8.setCell ⟨w2.heap.size, 1, none⟩ (.string ⟨y.toArray⟩)).heap.size = v8.heap.size := by simp
                        have hO9 : AtO (v8.setCell ⟨w2.heap.size, 1, none⟩ (.string ⟨y.toArray⟩)) w.heap.size u3 out := World.ownsRow.kept hO8 (gb_set (gb_refl _ v8) 1 (.string ⟨y.toArray⟩)) (by
                          cases hv : u3.ownBlock with
                          | none => exact Or.inl rfl
                          | some k' => right; have h8 := (World.ownsRow.lt hO k' hv).2; simp; omega)
                        have hR9 : Xr (v8.setCell ⟨w2.heap.size, 1, none⟩ (.string ⟨y.toArray⟩)) b s r' := hR8.far hbq
                        have hg9 : w.grownBy (v8.setCell ⟨w2.heap.size, 1, none⟩ (.string ⟨y.toArray⟩)) (some b) := gb_setnew (gb_trans hgw hg8) (Nat.le_trans hg.size hq2) _ _
                        have hnl : n.length ≤ s.length := by omega
                        have HNL2 := Lib.hid (show ∀ a ∈ out ++ [(n, y)], a.1.length ≤ s.length from fun a ha => by
                          rcases List.mem_append.1 ha with h | h
                          · exact HNL.out a h
                          · rw [List.mem_singleton] at h; subst h; exact hnl)
                        refine Lib.hid ?_
                        refine wpList_append_own _ rfl _ _ 22 rfl w.heap.size 39 i0 (.agg #[.string ⟨#[]⟩, .string ⟨#[]⟩]) 2 32 Tryz.underlying22 hi hz0 hz1 hz2 rfl (by decide) _ _ _ rfl (World.ownsRow.alloc hO9 _) ⟨v8.heap.size, 0, none⟩ 1 1 [.string ⟨n.toArray⟩, .string ⟨y.toArray⟩] rfl rfl (by have h9 := new_cells (v8.setCell ⟨w2.heap.size, 1, none⟩ (.string ⟨y.toArray⟩)) #[.string ⟨n.toArray⟩, .string ⟨y.toArray⟩] 39; rw [hsz] at h9; exact h9) (by simp [Value.oneCell']) (by unfold maxLen; omega) (by omega) (by have := hg9.size; simp at this ⊢; omega) ?_
                        intro v' wz hown' hgrow _
                        obtain ⟨hO', hR', hg'⟩ := app_meetX (a := (n, y)) hR9 hO9 hg9 hbw (by simpa using hown') hgrow
                        clear hown' hgrow hsz hO9 hR9 hg9 x0 x1 x2 x3 x4 z0 z1 z2 z3 z4
                        obtain ⟨av, cv, hve, hcv⟩ := own_shp (show wz.ownsRow w.heap.size 39 2 v' (out ++ [(n, y)]).length (atC (out ++ [(n, y)])) from hO')
                        have AC := Lib.hid (attrsT_c (out ++ [(n, y)]) v' (by simp; omega) (fun a ha => by have := HNL2.out a ha; omega) wz hO'.ats ⟨_, _, _, hve, hcv⟩)
                        clear hve hcv
                        by_cases h6 : atX (out ++ [(n, y)]) = 0
                        · rw [h6] at AC
                          have HG2 := Lib.hid (show atrX t = asF (j - 1) r' (out ++ [(n, y)]) by rw [HG.out, if_neg (fun h => h h6)])
                          clear h6 HG
                          go_wp2_with (go_at_call 54; (with_reducible refine AC.out.mono ?_); rintro e wy ⟨rfl, hby⟩)
                          go_roundw
                          case rel => exact ⟨r', out ++ [(n, y)], j - 1, HG2, by omega, hO'.of_bl hby, hR'.of_bl hby, gb_trans hg' (gb_bl hby), by simp; omega, HNL2⟩
                          case measure => rw [hmeas, (hR'.of_bl hby).meas]; omega
                        · have HG2 := Lib.hid (show atrX t = .error 6 by rw [HG.out, if_pos h6])
                          obtain ⟨q', hq'⟩ : ∃ q', q' = atX (out ++ [(n, y)]) := ⟨_, rfl⟩
                          rw [← hq'] at AC h6
                          have hq1 : (q' != 0) = true := by simpa using h6
                          have hq3 : (q' == 0) = false := by simpa using h6
                          clear h6 hq' HG
                          go_wp2_with (first | (go_at_call 54; (with_reducible refine AC.out.mono ?_); rintro e wy ⟨rfl, hby⟩) | (go_at_call 37; (with_reducible refine (fail_c 6 _).mono ?_); rintro e wq ⟨rfl, rfl⟩))
                          refine ⟨rfl, gb_trans hg' (gb_bl hby), ?_⟩
                          rw [HG2.out]
              · rw [hb] at BQ HV2
                simp only [if_true] at HV2
                clear hb
                cases h2 : pre [39] a2 with
                | false =>
                  have ER := Lib.hid (HE3.out 1 (by rw [HV2.out, if_pos h2]))
                  have NQ := Lib.hid (fun W h => needX_no [39] b s a2 W h (by omega) h2)
                  clear h2
                  go_wp2_with (first | (go_at_call 61; (with_reducible refine (TX.out _ hRq).mono ?_); rintro e w2 ⟨hg2, rfl, hR2⟩; have hR3 : Xr (w2.alloc (.cells #[.string ⟨n.toArray⟩, .string ⟨#[]⟩] 39)) b s t1 := hR2.of_bl ((Bl.refl _).alloc _); have hA3 := (ab_new w2 n : Ab (w2.alloc (.cells #[.string ⟨n.toArray⟩, .string ⟨#[]⟩] 39)) w2.heap.size n []); have hq2 : wr.heap.size ≤ w2.heap.size := (gb_trans hgq hg2).size; have hqb : w2.heap.size ≠ b := (by omega); have hbq : b ≠ w2.heap.size := (by omega)) | (go_at_call 58; (with_reducible refine (W1.out _ hR3).mono ?_); rintro e w4 ⟨rfl, hR4, hg4⟩) | (go_at_call 60; (with_reducible refine (NC.out _ hR4).mono ?_); rintro e w5 ⟨rfl, hR5, hg5⟩) | (go_at_call 58; (with_reducible refine (W2.out _ hR5).mono ?_); rintro e w6 ⟨rfl, hR6, hg6⟩) | (go_at_call 63; (with_reducible refine (BQ.out _ hR6).mono ?_); rintro e wc ⟨rfl, hq7⟩; have hRc := hR6.of_bl hq7.bl; have hAc := (((hA3.of_gb hg4 hqb).of_gb hg5 hqb).of_gb hg6 hqb).of_bl hq7.bl; have hgc := gb_trans (gb_trans hgq (gb_trans hg2 (gb_bl ((Bl.refl w2).alloc (.cells #[.string ⟨n.toArray⟩, .string ⟨#[]⟩] 39))))) (gb_trans hg4 (gb_trans hg5 (gb_trans hg6 (gb_qt hq7)))); have hgw := gb_trans hg hgc; have hMc := hM.of_gb hgw hbM; have hEc := hE.of_gb hgw hbE; have hOc := hO.of_gb hgc hbw) | (go_at_call 60; (with_reducible refine (NQ.out _ hRc).mono ?_); rintro e v5 ⟨rfl, kq5⟩))
                  refine ⟨rfl, gb_trans hgw (gb_qt kq5), ?_⟩
                  rw [ER.out]
                | true =>
                  have HV3 := Lib.hid (show vaX t1 = _ from by rw [HV2.out, if_neg (by simp [h2])])
                  have NQ := Lib.hid (fun W h => needX_yes [39] b s a2 W h (by omega) h2)
                  simp only [List.length_singleton] at NQ
                  clear h2 HV2
                  cases h3 : toS [39] (a2.drop 1) with
                  | none =>
                    have ER := Lib.hid (HE3.out 1 (by rw [HV3.out, h3]))
                    have TC := Lib.hid (fun W h hm => toX_no [39] (by simp) b s (a2.drop 1) W h (by omega) hm h3)
                    clear h3
                    go_wp2_with (first | (go_at_call 61; (with_reducible refine (TX.out _ hRq).mono ?_); rintro e w2 ⟨hg2, rfl, hR2⟩; have hR3 : Xr (w2.alloc (.cells #[.string ⟨n.toArray⟩, .string ⟨#[]⟩] 39)) b s t1 := hR2.of_bl ((Bl.refl _).alloc _); have hA3 := (ab_new w2 n : Ab (w2.alloc (.cells #[.string ⟨n.toArray⟩, .string ⟨#[]⟩] 39)) w2.heap.size n []); have hq2 : wr.heap.size ≤ w2.heap.size := (gb_trans hgq hg2).size; have hqb : w2.heap.size ≠ b := (by omega); have hbq : b ≠ w2.heap.size := (by omega)) | (go_at_call 58; (with_reducible refine (W1.out _ hR3).mono ?_); rintro e w4 ⟨rfl, hR4, hg4⟩) | (go_at_call 60; (with_reducible refine (NC.out _ hR4).mono ?_); rintro e w5 ⟨rfl, hR5, hg5⟩) | (go_at_call 58; (with_reducible refine (W2.out _ hR5).mono ?_); rintro e w6 ⟨rfl, hR6, hg6⟩) | (go_at_call 63; (with_reducible refine (BQ.out _ hR6).mono ?_); rintro e wc ⟨rfl, hq7⟩; have hRc := hR6.of_bl hq7.bl; have hAc := (((hA3.of_gb hg4 hqb).of_gb hg5 hqb).of_gb hg6 hqb).of_bl hq7.bl; have hgc := gb_trans (gb_trans hgq (gb_trans hg2 (gb_bl ((Bl.refl w2).alloc (.cells #[.string ⟨n.toArray⟩, .string ⟨#[]⟩] 39))))) (gb_trans hg4 (gb_trans hg5 (gb_trans hg6 (gb_qt hq7)))); have hgw := gb_trans hg hgc; have hMc := hM.of_gb hgw hbM; have hEc := hE.of_gb hgw hbE; have hOc := hO.of_gb hgc hbw) | (go_at_call 60; (with_reducible refine (NQ.out _ hRc).mono ?_); rintro e v5 ⟨rfl, kR5, kg5⟩) | (go_at_call 79; (with_reducible refine (TC.out _ kR5 (hMc.of_gb kg5 hbM)).mono ?_); rintro e v6 ⟨rfl, kq6⟩))
                    refine ⟨rfl, gb_trans hgw (gb_trans kg5 (gb_qt kq6)), ?_⟩
                    rw [ER.out]
                  | some vr =>
                    obtain ⟨v, r'⟩ := vr
                    have HV4 := Lib.hid (show vaX t1 = if 60 ∈ v then .error 1 else if (Tk v).2 then .ok ((Tk v).1, r') else .error 1 from by rw [HV3.out, h3])
                    have TC := Lib.hid (fun W h hm => toX_yes [39] (by simp) b s (a2.drop 1) v r' W h (by omega) hm h3)
                    have CC := Lib.hid (fun W => contains_c v W)
                    have hvl : v.length ≤ s.length := by
                      have e1 := (toS_some h3).2
                      have e2 := congrArg List.length e1
                      rw [List.length_take, List.length_drop] at e2
                      have := hlt'
                      omega
                    clear h3 HV3
                    by_cases h4 : 60 ∈ v
                    · have ER := Lib.hid (HE3.out 1 (by rw [HV4.out, if_pos h4]))
                      rw [decide_eq_true h4] at CC
                      clear h4
                      go_wp2_with (first | (go_at_call 61; (with_reducible refine (TX.out _ hRq).mono ?_); rintro e w2 ⟨hg2, rfl, hR2⟩; have hR3 : Xr (w2.alloc (.cells #[.string ⟨n.toArray⟩, .string ⟨#[]⟩] 39)) b s t1 := hR2.of_bl ((Bl.refl _).alloc _); have hA3 := (ab_new w2 n : Ab (w2.alloc (.cells #[.string ⟨n.toArray⟩, .string ⟨#[]⟩] 39)) w2.heap.size n []); have hq2 : wr.heap.size ≤ w2.heap.size := (gb_trans hgq hg2).size; have hqb : w2.heap.size ≠ b := (by omega); have hbq : b ≠ w2.heap.size := (by omega)) | (go_at_call 58; (with_reducible refine (W1.out _ hR3).mono ?_); rintro e w4 ⟨rfl, hR4, hg4⟩) | (go_at_call 60; (with_reducible refine (NC.out _ hR4).mono ?_); rintro e w5 ⟨rfl, hR5, hg5⟩) | (go_at_call 58; (with_reducible refine (W2.out _ hR5).mono ?_); rintro e w6 ⟨rfl, hR6, hg6⟩) | (go_at_call 63; (with_reducible refine (BQ.out _ hR6).mono ?_); rintro e wc ⟨rfl, hq7⟩; have hRc := hR6.of_bl hq7.bl; have hAc := (((hA3.of_gb hg4 hqb).of_gb hg5 hqb).of_gb hg6 hqb).of_bl hq7.bl; have hgc := gb_trans (gb_trans hgq (gb_trans hg2 (gb_bl ((Bl.refl w2).alloc (.cells #[.string ⟨n.toArray⟩, .string ⟨#[]⟩] 39))))) (gb_trans hg4 (gb_trans hg5 (gb_trans hg6 (gb_qt hq7)))); have hgw := gb_trans hg hgc; have hMc := hM.of_gb hgw hbM; have hEc := hE.of_gb hgw hbE; have hOc := hO.of_gb hgc hbw) | (go_at_call 60; (with_reducible refine (NQ.out _ hRc).mono ?_); rintro e v5 ⟨rfl, kR5, kg5⟩) | (go_at_call 79; (with_reducible refine (TC.out _ kR5 (hMc.of_gb kg5 hbM)).mono ?_); rintro e v6 ⟨rfl, kR6, kg6⟩) | (go_at_call 80; (with_reducible refine (CC.out _).mono ?_); rintro e v7 ⟨rfl, rfl⟩) | (go_at_call 37; (with_reducible refine (fail_c 1 _).mono ?_); rintro e v8 ⟨rfl, rfl⟩))
                      refine ⟨rfl, gb_trans hgw (gb_trans kg5 kg6), ?_⟩
                      rw [ER.out]
                    · rw [decide_eq_false h4] at CC
                      cases h5 : (Tk v).2 with
                      | false =>
                        have ER := Lib.hid (HE3.out 1 (by rw [HV4.out, if_neg h4, if_neg (by simp [h5])]))
                        have KC := Lib.hid (fun W h => told_no v (by omega) W h h5)
                        clear h4 h5
                        go_wp2_with (first | (go_at_call 61; (with_reducible refine (TX.out _ hRq).mono ?_); rintro e w2 ⟨hg2, rfl, hR2⟩; have hR3 : Xr (w2.alloc (.cells #[.string ⟨n.toArray⟩, .string ⟨#[]⟩] 39)) b s t1 := hR2.of_bl ((Bl.refl _).alloc _); have hA3 := (ab_new w2 n : Ab (w2.alloc (.cells #[.string ⟨n.toArray⟩, .string ⟨#[]⟩] 39)) w2.heap.size n []); have hq2 : wr.heap.size ≤ w2.heap.size := (gb_trans hgq hg2).size; have hqb : w2.heap.size ≠ b := (by omega); have hbq : b ≠ w2.heap.size := (by omega)) | (go_at_call 58; (with_reducible refine (W1.out _ hR3).mono ?_); rintro e w4 ⟨rfl, hR4, hg4⟩) | (go_at_call 60; (with_reducible refine (NC.out _ hR4).mono ?_); rintro e w5 ⟨rfl, hR5, hg5⟩) | (go_at_call 58; (with_reducible refine (W2.out _ hR5).mono ?_); rintro e w6 ⟨rfl, hR6, hg6⟩) | (go_at_call 63; (with_reducible refine (BQ.out _ hR6).mono ?_); rintro e wc ⟨rfl, hq7⟩; have hRc := hR6.of_bl hq7.bl; have hAc := (((hA3.of_gb hg4 hqb).of_gb hg5 hqb).of_gb hg6 hqb).of_bl hq7.bl; have hgc := gb_trans (gb_trans hgq (gb_trans hg2 (gb_bl ((Bl.refl w2).alloc (.cells #[.string ⟨n.toArray⟩, .string ⟨#[]⟩] 39))))) (gb_trans hg4 (gb_trans hg5 (gb_trans hg6 (gb_qt hq7)))); have hgw := gb_trans hg hgc; have hMc := hM.of_gb hgw hbM; have hEc := hE.of_gb hgw hbE; have hOc := hO.of_gb hgc hbw) | (go_at_call 60; (with_reducible refine (NQ.out _ hRc).mono ?_); rintro e v5 ⟨rfl, kR5, kg5⟩) | (go_at_call 79; (with_reducible refine (TC.out _ kR5 (hMc.of_gb kg5 hbM)).mono ?_); rintro e v6 ⟨rfl, kR6, kg6⟩) | (go_at_call 80; (with_reducible refine (CC.out _).mono ?_); rintro e v7 ⟨rfl, rfl⟩) | (go_at_call 81; (with_reducible refine (KC.out _ ((hEc.of_gb kg5 hbE).of_gb kg6 hbE)).mono ?_); rintro e v8 ⟨rfl, hb8⟩))
                        refine ⟨rfl, gb_trans hgw (gb_trans (gb_trans kg5 kg6) (gb_bl hb8)), ?_⟩
                        rw [ER.out]
                      | true =>
                        have hva : vaX t1 = .ok ((Tk v).1, r') := by rw [HV4.out, if_neg h4, if_pos h5]
                        have HG := Lib.hid (HE4.out _ _ hva)
                        have hrl := HVL.out _ _ hva
                        have KC := Lib.hid (fun W h => told_yes v (by omega) W h h5)
                        obtain ⟨y, hy⟩ : ∃ y, y = (Tk v).1 := ⟨_, rfl⟩
                        rw [← hy] at HG KC
                        clear h4 h5 hva HV4 HE3 HE4 HVL hy
                        go_wp2_with (first | (go_at_call 61; (with_reducible refine (TX.out _ hRq).mono ?_); rintro e w2 ⟨hg2, rfl, hR2⟩; have hR3 : Xr (w2.alloc (.cells #[.string ⟨n.toArray⟩, .string ⟨#[]⟩] 39)) b s t1 := hR2.of_bl ((Bl.refl _).alloc _); have hA3 := (ab_new w2 n : Ab (w2.alloc (.cells #[.string ⟨n.toArray⟩, .string ⟨#[]⟩] 39)) w2.heap.size n []); have hq2 : wr.heap.size ≤ w2.heap.size := (gb_trans hgq hg2).size; have hqb : w2.heap.size ≠ b := (by omega); have hbq : b ≠ w2.heap.size := (by omega)) | (go_at_call 58; (with_reducible refine (W1.out _ hR3).mono ?_); rintro e w4 ⟨rfl, hR4, hg4⟩) | (go_at_call 60; (with_reducible refine (NC.out _ hR4).mono ?_); rintro e w5 ⟨rfl, hR5, hg5⟩) | (go_at_call 58; (with_reducible refine (W2.out _ hR5).mono ?_); rintro e w6 ⟨rfl, hR6, hg6⟩) | (go_at_call 63; (with_reducible refine (BQ.out _ hR6).mono ?_); rintro e wc ⟨rfl, hq7⟩; have hRc := hR6.of_bl hq7.bl; have hAc := (((hA3.of_gb hg4 hqb).of_gb hg5 hqb).of_gb hg6 hqb).of_bl hq7.bl; have hgc := gb_trans (gb_trans hgq (gb_trans hg2 (gb_bl ((Bl.refl w2).alloc (.cells #[.string ⟨n.toArray⟩, .string ⟨#[]⟩] 39))))) (gb_trans hg4 (gb_trans hg5 (gb_trans hg6 (gb_qt hq7)))); have hgw := gb_trans hg hgc; have hMc := hM.of_gb hgw hbM; have hEc := hE.of_gb hgw hbE; have hOc := hO.of_gb hgc hbw) | (go_at_call 60; (with_reducible refine (NQ.out _ hRc).mono ?_); rintro e v5 ⟨rfl, kR5, kg5⟩) | (go_at_call 79; (with_reducible refine (TC.out _ kR5 (hMc.of_gb kg5 hbM)).mono ?_); rintro e v6 ⟨rfl, kR6, kg6⟩) | (go_at_call 80; (with_reducible refine (CC.out _).mono ?_); rintro e v7 ⟨rfl, rfl⟩) | (go_at_call 81; (with_reducible refine (KC.out _ ((hEc.of_gb kg5 hbE).of_gb kg6 hbE)).mono ?_); rintro e v8 ⟨rfl, hb8⟩; have hA8 := ((hAc.of_gb kg5 hqb).of_gb kg6 hqb).of_bl hb8; have hR8 := kR6.of_bl hb8; have hg8 := gb_trans (gb_trans kg5 kg6) (gb_bl (b := some b) hb8); have hO8 := hOc.of_gb hg8 hbw; have hA8b := hA8; obtain ⟨x0, x1, x2, x3, x4⟩ := hA8b; have hAt := hA8.set1 y; obtain ⟨z0, z1, z2, z3, z4⟩ := hAt) | (at_builtin; refine Hid.out ?_))
                        have hsz : (v8.setCell ⟨w2.heap.size, 1, none⟩ (.string ⟨y.toArray⟩)).heap.size = v8.heap.size := by simp
                        have hO9 : AtO (v8.setCell ⟨w2.heap.size, 1, none⟩ (.string ⟨y.toArray⟩)) w.heap.size u3 out := World.ownsRow.kept hO8 (gb_set (gb_refl _ v8) 1 (.string ⟨y.toArray⟩)) (by
                          cases hv : u3.ownBlock with
                          | none => exact Or.inl rfl
                          | some k' => right; have h8 := (World.ownsRow.lt hO k' hv).2; simp; omega)
                        have hR9 : Xr (v8.setCell ⟨w2.heap.size, 1, none⟩ (.string ⟨y.toArray⟩)) b s r' := hR8.far hbq
                        have hg9 : w.grownBy (v8.setCell ⟨w2.heap.size, 1, none⟩ (.string ⟨y.toArray⟩)) (some b) := gb_setnew (gb_trans hgw hg8) (Nat.le_trans hg.size hq2) _ _
                        have hnl : n.length ≤ s.length := by omega
                        have HNL2 := Lib.hid (show ∀ a ∈ out ++ [(n, y)], a.1.length ≤ s.length from fun a ha => by
                          rcases List.mem_append.1 ha with h | h
                          · exact HNL.out a h
                          · rw [List.mem_singleton] at h; subst h; exact hnl)
                        refine Lib.hid ?_
                        refine wpList_append_own _ rfl _ _ 22 rfl w.heap.size 39 i0 (.agg #[.string ⟨#[]⟩, .string ⟨#[]⟩]) 2 32 Tryz.underlying22 hi hz0 hz1 hz2 rfl (by decide) _ _ _ rfl (World.ownsRow.alloc hO9 _) ⟨v8.heap.size, 0, none⟩ 1 1 [.string ⟨n.toArray⟩, .string ⟨y.toArray⟩] rfl rfl (by have h9 := new_cells (v8.setCell ⟨w2.heap.size, 1, none⟩ (.string ⟨y.toArray⟩)) #[.string ⟨n.toArray⟩, .string ⟨y.toArray⟩] 39; rw [hsz] at h9; exact h9) (by simp [Value.oneCell']) (by unfold maxLen; omega) (by omega) (by have := hg9.size; simp at this ⊢; omega) ?_
                        intro v' wz hown' hgrow _
                        obtain ⟨hO', hR', hg'⟩ := app_meetX (a := (n, y)) hR9 hO9 hg9 hbw (by simpa using hown') hgrow
                        clear hown' hgrow hsz hO9 hR9 hg9 x0 x1 x2 x3 x4 z0 z1 z2 z3 z4
                        obtain ⟨av, cv, hve, hcv⟩ := own_shp (show wz.ownsRow w.heap.size 39 2 v' (out ++ [(n, y)]).length (atC (out ++ [(n, y)])) from hO')
                        have AC := Lib.hid (attrsT_c (out ++ [(n, y)]) v' (by simp; omega) (fun a ha => by have := HNL2.out a ha; omega) wz hO'.ats ⟨_, _, _, hve, hcv⟩)
                        clear hve hcv
                        by_cases h6 : atX (out ++ [(n, y)]) = 0
                        · rw [h6] at AC
                          have HG2 := Lib.hid (show atrX t = asF (j - 1) r' (out ++ [(n, y)]) by rw [HG.out, if_neg (fun h => h h6)])
                          clear h6 HG
                          go_wp2_with (go_at_call 54; (with_reducible refine AC.out.mono ?_); rintro e wy ⟨rfl, hby⟩)
                          go_roundw
                          case rel => exact ⟨r', out ++ [(n, y)], j - 1, HG2, by omega, hO'.of_bl hby, hR'.of_bl hby, gb_trans hg' (gb_bl hby), by simp; omega, HNL2⟩
                          case measure => rw [hmeas, (hR'.of_bl hby).meas]; omega
                        · have HG2 := Lib.hid (show atrX t = .error 6 by rw [HG.out, if_pos h6])
                          obtain ⟨q', hq'⟩ : ∃ q', q' = atX (out ++ [(n, y)]) := ⟨_, rfl⟩
                          rw [← hq'] at AC h6
                          have hq1 : (q' != 0) = true := by simpa using h6
                          have hq3 : (q' == 0) = false := by simpa using h6
                          clear h6 hq' HG
                          go_wp2_with (first | (go_at_call 54; (with_reducible refine AC.out.mono ?_); rintro e wy ⟨rfl, hby⟩) | (go_at_call 37; (with_reducible refine (fail_c 6 _).mono ?_); rintro e wq ⟨rfl, rfl⟩))
                          refine ⟨rfl, gb_trans hg' (gb_bl hby), ?_⟩
                          rw [HG2.out]
    · have hws := miX_as2 t' (by omega)
      have HR := Lib.hid (show atrX t = .ok (out, t') by rw [HA.out, HE.out, if_neg (fun h => hw h.1), hws])
      rw [hws, Nat.sub_self] at WC
      obtain ⟨k, hk⟩ : ∃ k, k = s.length - t'.length := ⟨_, rfl⟩
      have HK := Lib.hid hk
      clear HE hk hws
      go_wp2_with fail
      refine wp_region_fuel 27 (by kernel_rfl) (by rfl) ?_
      refine wpAny_one (i := 0) (by kernel_rfl) rfl rfl (fun K' hK' => ?_)
      go_simp
      refine hK' _ _ ?_
      clear hK' K'
      refine wpAny_one (i := 1) (by kernel_rfl) rfl rfl (fun K' hK' => ?_)
      go_simp
      go_at_call 58
      (with_reducible refine (WC.out _ (hRr.of_bl (Bl.refl _).drew)).mono ?_)
      rintro e w1 ⟨rfl, hR1, hg1⟩
      obtain ⟨c0, c1, f0, f1⟩ := hR1.at_ HK.out
      have hg1' : wr.grownBy w1 (some b) := gb_trans (gb_bl (Bl.refl _).drew) hg1
      refine hK' _ _ ?_
      clear hK' K'
      refine wpAny_one (i := 2) (by kernel_rfl) rfl rfl (fun K' hK' => ?_)
      go_simp
      refine hK' _ _ ?_
      clear hK' K'
      refine wpAny_one (i := 3) (by kernel_rfl) rfl rfl (fun K' hK' => ?_)
      go_simp
      refine hK' _ _ ?_
      clear hK' K'
      refine wpAny_quiet4 23 (by kernel_rfl) (by rfl) (by kernel_rfl) ?_
      repeat (go_big_quiet_step (fail))
      refine wpQuiet_nil ?_
      rintro _ ⟨nq, rfl⟩
      have hRq := hR1.of_bl ((Bl.refl _).drewN nq)
      have hgq := gb_drewN hg1' nq
      go_wp2
      go_ret
      refine ⟨gb_trans hg hgq, ?_⟩
      rw [HR.out]
      exact ⟨_, rfl, hO.of_gb hgq hbw, hRq⟩
end Go.Proofs.YtkacjnifhmgeiaaGreatDoor

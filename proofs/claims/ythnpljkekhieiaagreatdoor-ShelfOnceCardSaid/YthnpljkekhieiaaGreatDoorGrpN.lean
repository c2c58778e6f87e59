/- Trees: Tokens. · Clean markup: kinds of elements and attributes; is a tree clean? -/
import Derived.Test.YthnpljkekhieiaaGreatDoorGrpM
import Derived.Test.YthnpljkekhieiaaGreatDoorGrpL
import Derived.Test.YthnpljkekhieiaaGreatDoorGrpI
import Derived.Deep.CutBlock
import Derived.BigRegion
import Derived.Test.YthnpljkekhieiaaGreatDoorShC
import Derived.Test.YthnpljkekhieiaaGreatDoorGrpK
namespace Go.Proofs.YthnpljkekhieiaaGreatDoor
open Go.RowKit

theorem flt_app (l m : List Nd) : fltL (l ++ m) = fltL l ++ fltL m := by
  induction l with
  | nil => rfl
  | cons d l ih => simp only [List.cons_append, fltL, ih, List.append_assoc]
theorem flt_len (l : List Nd) : (fltL l).length ≤ 2 * cntL l := by
  induction l using Nd.ind with
  | h0 => simp [fltL]
  | h1 n a x k l ik il =>
    simp only [fltL, fltN, cntL, cntN, List.length_append]
    split
    · simp; omega
    · split
      · simp; omega
      · simp; omega
theorem flt_take (l : List Nd) (k : Nat) (h : k < l.length) : fltL (l.take (k + 1)) = fltL (l.take k) ++ fltN l[k] := by
  rw [take_snoc l k h, flt_app]; simp [fltL]
theorem flt_txt {d : Nd} (h : d.n = []) : fltN d = [(1, [], [], d.x)] := by
  cases d with
  | mk n a x k => simp only [Nd.n] at h; subst h; simp [fltN, Nd.x]
theorem flt_emp {d : Nd} (h : d.n ≠ []) (he : emptyN d.n = true) : fltN d = [(2, d.n, d.a, [])] := by
  cases d with
  | mk n a x k => simp only [Nd.n] at h he; simp [fltN, Nd.n, Nd.a, h, he]
theorem flt_el {d : Nd} (h : d.n ≠ []) (he : emptyN d.n = false) : fltN d = [(2, d.n, d.a, [])] ++ fltL d.k ++ [(3, d.n, [], [])] := by
  cases d with
  | mk n a x k => simp only [Nd.n] at h he; simp [fltN, Nd.n, Nd.a, Nd.k, h, he]
/-- A node that was copied, in a block of its own. -/
def Nq (w : World) (q : Nat) (n x : Nm) (va vk : Value) : Prop := w.heap[q]? = some (.cells #[.string ⟨n.toArray⟩, va, .string ⟨x.toArray⟩, vk] 99 (0, 0))
theorem Nq.cells {w : World} {q : Nat} {n x : Nm} {va vk : Value} (h : Nq w q n x va vk) : w.cell? ⟨q, 0, none⟩ = some (.string ⟨n.toArray⟩) ∧ w.cell? ⟨q, 1, none⟩ = some va ∧ w.cell? ⟨q, 2, none⟩ = some (.string ⟨x.toArray⟩) ∧ w.cell? ⟨q, 3, none⟩ = some vk := by
  unfold Nq at h
  simp [World.cell?, h]
theorem Nq.lt {w : World} {q : Nat} {n x : Nm} {va vk : Value} (h : Nq w q n x va vk) : q < w.heap.size := (Array.getElem?_eq_some_iff.1 h).1
theorem Nq.of_bl {w w' : World} {q : Nat} {n x : Nm} {va vk : Value} (h : Nq w q n x va vk) (hb : Bl w w') : Nq w' q n x va vk := (Below.block hb q h.lt).trans h
theorem Nq.of_gr {w w' : World} {q : Nat} {n x : Nm} {va vk u : Value} (h : Nq w q n x va vk) {B sz m : Nat} {xs : List Value} (ho : w.ownsRow B 104 sz u m xs) (hg : w.grownBy w' u.ownBlock) : Nq w' q n x va vk :=
  (hg.block q h.lt (fun e => own_ty ho h (by decide) e.symm)).trans h
/-- One token more. -/
theorem tk_more {w wr w6 wz : World} {out v' va : Value} {l : List Tok} {t : Tok} {ents : List (Tok × Value)} (hb : Bl w wr) (e1 : ents.map (·.1) = l) (e2 : wr.ownsRow w.heap.size 104 4 out ents.length (tkC ents)) (e3 : ∀ p ∈ ents, AtO wr w.heap.size p.2 p.1.2.2.1)
    (h6 : Bl wr w6) (ha : AtO w6 w.heap.size va t.2.2.1) (hown' : wz.ownsRow w.heap.size 104 4 v' (ents.length + 1) (tkC ents ++ [.int .i64 t.1, .string ⟨t.2.1.toArray⟩, va, .string ⟨t.2.2.2.toArray⟩])) (hgrow : w6.grownBy wz out.ownBlock) : TkO wz w.heap.size v' (l ++ [t]) ∧ Bl w wz :=
  ⟨tk_meet e1 (own_bl e2 h6) (fun p hp => (e3 p hp).of_bl h6) ha hown' hgrow, Below.trans (hb.trans h6) (below_gr hgrow (fun j hj => ((World.ownsRow.lt e2) j hj).1) (Below.size (hb.trans h6)))⟩
theorem tks_more {w wr w6 wz : World} {out v' : Value} {l m : List Tok} {ents ents2 : List (Tok × Value)} (hb : Bl w wr) (e1 : ents.map (·.1) = l) (e2 : wr.ownsRow w.heap.size 104 4 out ents.length (tkC ents)) (e3 : ∀ p ∈ ents, AtO wr w.heap.size p.2 p.1.2.2.1)
    (h6 : Bl wr w6) (k1 : ents2.map (·.1) = m) (k3 : ∀ p ∈ ents2, AtO w6 w.heap.size p.2 p.1.2.2.1) (hown' : wz.ownsRow w.heap.size 104 4 v' (ents.length + ents2.length) (tkC ents ++ tkC ents2)) (hgrow : w6.grownBy wz out.ownBlock) : TkO wz w.heap.size v' (l ++ m) ∧ Bl w wz :=
  ⟨tks_meet e1 (own_bl e2 h6) (fun p hp => (e3 p hp).of_bl h6) k1 k3 hown' hgrow, Below.trans (hb.trans h6) (below_gr hgrow (fun j hj => ((World.ownsRow.lt e2) j hj).1) (Below.size (hb.trans h6)))⟩
set_option maxRecDepth 100000 in
set_option maxHeartbeats 8000000 in
theorem toks_c (N : Nat) : ∀ (l : List Nd) (v : Value) (P : Nat → Prop) (w : World), wtL l < N → N ≤ 10000000 → NdS w P v l →
    Calls Tryz.prog 73 #[v] w fun e w' => ∃ v', e = .returned v' ∧ TkO w' w.heap.size v' (fltL l) ∧ Bl w w' := by
  induction N with
  | zero => intro l v P w h; omega
  | succ N ih =>
    intro l v P w hN hN2 hA
    obtain ⟨i0, hi, hz0, hz1, hz2⟩ := info_parts Tryz.infoTok
    obtain ⟨ao, cap, rfl, hcap, hA⟩ := hA.get
    have hll := cnt_len l
    have hlc := wt_cnt l
    have IH := Lib.hid ih
    have HA := Lib.hid hA
    have HN := Lib.hid hN
    clear ih hA hN
    go_enter Tryz.func73, Tryz.ntmps73
    go_wp2
    go_loopw [3, 8] (fun u i wr => ∃ k : Nat, k ≤ l.length ∧ i = .int .i64 k ∧ TkO wr w.heap.size u (fltL (l.take k)) ∧ Bl w wr) (fun _ i _ => l.length - (intOf i).toNat)
    case atStart => exact ⟨0, Nat.zero_le _, rfl, TkO.nil _ _, Bl.refl _⟩
    case round =>
      obtain ⟨k, hk, rfl, hT, hb⟩ := hrel
      by_cases hlt : k < l.length
      · obtain ⟨g, o, va, vk, rfl, hg, -, h1, h2, h3, h4, h5, h6⟩ := HA.out k hlt
        have y1 := (hb.cells.1 g _ hg).trans h1
        have y2 := (hb.cells.1 g _ hg).trans h2
        have y3 := (hb.cells.1 g _ hg).trans h3
        have y4 := (hb.cells.1 g _ hg).trans h4
        have hgr : g < wr.heap.size := Nat.lt_of_lt_of_le hg (Below.size hb)
        have hwt := wt_get l k hlt
        have hN3 := HN.out
        have hal : l[k].a.length ≤ 100000000 := by have := wtA_len l[k].a; omega
        have CC := Lib.hid (fun W (hbW : Bl w W) => clone_o l[k].a va hal W (h5.ats.of_bl hbW))
        have KC := Lib.hid (fun W (hbW : Bl w W) => IH.out l[k].k vk P W (by omega) (by omega) (h6.of_bl hbW))
        have EC := Lib.hid (fun W => empty_c l[k].n W)
        have HS := Lib.hid (flt_take l k hlt)
        have hl1 : (fltL (l.take k)).length + (fltN l[k]).length ≤ 20000000 := by
          have h7 := flt_len l
          have h8 : fltL l = fltL (l.take (k + 1)) ++ fltL (l.drop (k + 1)) := by rw [← flt_app, List.take_append_drop]
          rw [h8, HS.out] at h7
          simp only [List.length_append] at h7
          omega
        have HL := Lib.hid hl1
        obtain ⟨a1, n1, c1, rfl⟩ : ∃ a n c, va = .slice a n c := by obtain ⟨a, c, e, -⟩ := h5; exact ⟨a, _, c, e⟩
        obtain ⟨a2, c2, rfl⟩ : ∃ a c, vk = .slice a l[k].k.length c := by obtain ⟨a, c, e, -⟩ := h6; exact ⟨a, c, e⟩
        clear h1 h2 h3 h4 h5 h6 hl1
        obtain ⟨ents, e1, e2, e3⟩ := hT
        have E1 := Lib.hid e1
        have E2 := Lib.hid e2
        have E3 := Lib.hid e3
        have hel : ents.length ≤ 20000000 := by
          have : ents.length = (fltL (l.take k)).length := by rw [← e1, List.length_map]
          have := HL.out
          omega
        clear e1 e2 e3
        by_cases hn : l[k].n = []
        · have HT := Lib.hid (flt_txt hn)
          clear EC CC KC
          go_wp2_with (at_builtin; refine Hid.out ?_)
          refine Lib.hid ?_
          refine wpList_append_own _ rfl _ _ 87 rfl w.heap.size 104 i0 (.agg #[.int .i64 0, .string ⟨#[]⟩, .slice none 0 0, .string ⟨#[]⟩]) 4 64 Tryz.underlying87 hi hz0 hz1 hz2 rfl (by decide) u3 ents.length (tkC ents) rfl (own_bl E2.out (by repeat (first | exact Bl.refl _ | refine Bl.drew ?_ | refine Bl.alloc ?_ _))) ⟨wr.heap.size + 1, 0, none⟩ 1 1 [.int .i64 1, .string ⟨#[]⟩, .slice none 0 0, .string ⟨l[k].x.toArray⟩] rfl rfl (new_cells2 wr _ #[.int .i64 1, .string ⟨#[]⟩, .slice none 0 0, .string ⟨l[k].x.toArray⟩] _) (by simp [Value.oneCell']) (by unfold maxLen; omega) (by omega) (by have := Below.size hb; simp; omega) ?_
          intro v' wz hown' hgrow _
          obtain ⟨hT3, hb3⟩ := tk_more (t := (1, [], [], l[k].x)) hb E1.out E2.out E3.out (by repeat (first | exact Bl.refl _ | refine Bl.drew ?_ | refine Bl.alloc ?_ _)) (AtO.nil _ _) hown' hgrow
          clear hown' hgrow
          go_wp2
          go_roundw
          case rel => exact ⟨k + 1, by omega, by go_num, by rw [HS.out, HT.out]; exact hT3, hb3⟩
          case measure => simp [intOf]; omega
        · have hne : l[k].n.isEmpty = false := by cases e : l[k].n <;> simp_all
          have HNE := Lib.hid hn
          clear hn
          go_upto_region 7 with fail
          go_cut [3] from 21 to 29 (fun t wx => TkO wx w.heap.size t (fltL (l.take k) ++ [(2, l[k].n, l[k].a, [])]) ∧ Bl w wx ∧ Nq wx wr.heap.size l[k].n l[k].x (.slice a1 n1 c1) (.slice a2 l[k].k.length c2))
          case first =>
            go_region_law (first | (go_simp; go_at_call 104; (with_reducible refine (CC.out _ (by repeat (first | exact hb | refine Bl.drew ?_ | refine Bl.alloc ?_ _))).mono ?_); rintro e w2 ⟨va2, rfl, hO2', hb2⟩; have hO2 := hO2'.base_le (B' := w.heap.size) (by have := Below.size hb; simp; omega); clear hO2'; obtain ⟨ao2, cc2, rfl⟩ := hO2.shape; have hbq : Bl wr w2 := Bl.trans (by repeat (first | exact Bl.refl _ | refine Bl.drew ?_ | refine Bl.alloc ?_ _)) hb2; have hq2 : Nq w2 wr.heap.size l[k].n l[k].x (.slice a1 n1 c1) (.slice a2 l[k].k.length c2) := (Below.block hb2 wr.heap.size (by simp)).trans (heap_alloc_new _ _); obtain ⟨p0, p1, p2, p3⟩ := hq2.cells; have hql2 := hq2.lt) | go_loud (refine step_append_own rfl (.tmp 21) (.tmp 28) 87 rfl w.heap.size 104 i0 (.agg #[.int .i64 0, .string ⟨#[]⟩, .slice none 0 0, .string ⟨#[]⟩]) 4 64 Tryz.underlying87 hi hz0 hz1 hz2 rfl (by decide) u3 ents.length (tkC ents) (by simp [Act.eval]) (own_bl E2.out (Bl.trans hbq (by repeat (first | exact Bl.refl _ | refine Bl.drew ?_ | refine Bl.alloc ?_ _)))) ⟨w2.heap.size, 0, none⟩ 1 1 [.int .i64 2, .string ⟨l[k].n.toArray⟩, .slice ao2 l[k].a.length cc2, .string ⟨#[]⟩] (by simp [Act.eval]) rfl (new_cells w2 #[.int .i64 2, .string ⟨l[k].n.toArray⟩, .slice ao2 l[k].a.length cc2, .string ⟨#[]⟩] _) (by simp [Value.oneCell']) (by unfold maxLen; omega) (by omega) (by have := Below.size hb; have := Below.size hbq; simp; omega) ?_; intro v' wz hown3 hgrow; obtain ⟨hT3, hb3⟩ := tk_more (t := (2, l[k].n, l[k].a, [])) hb E1.out E2.out E3.out (Bl.trans hbq (by repeat (first | exact Bl.refl _ | refine Bl.drew ?_ | refine Bl.alloc ?_ _))) (hO2.of_bl (by repeat (first | exact Bl.refl _ | refine Bl.drew ?_ | refine Bl.alloc ?_ _))) hown3 hgrow; have hq3 := (Nq.of_bl hq2 (by repeat (first | exact Bl.refl _ | refine Bl.drew ?_ | refine Bl.alloc ?_ _))).of_gr (own_bl E2.out (Bl.trans hbq (by repeat (first | exact Bl.refl _ | refine Bl.drew ?_ | refine Bl.alloc ?_ _)))) hgrow; obtain ⟨o0, o1, o2, o3⟩ := hq3.cells; have hql3 := hq3.lt; clear hown3 hgrow))
            all_goals
              go_wp2_with fail
              go_meet
              case rel => first | exact ⟨hT3, hb3, hq3⟩ | exact ⟨hT3.of_bl (Bl.drew (Bl.refl _)), Bl.drew hb3, hq3.of_bl (Bl.drew (Bl.refl _))⟩
          case rest =>
            obtain ⟨hT2, hb2, hq2⟩ := hcut
            obtain ⟨z0, z1, z2, z3⟩ := hq2.cells
            have hql := hq2.lt
            cases he : emptyN l[k].n
            · rw [he] at EC
              have HT := Lib.hid (flt_el HNE.out he)
              have hl6 : (fltL l[k].k).length ≤ 20000000 := by
                have := HL.out
                rw [HT.out] at this
                simp only [List.length_append] at this
                omega
              have HK := Lib.hid hl6
              obtain ⟨ents4, f1, f2, f3⟩ := hT2
              have hel4 : ents4.length ≤ 20000001 := by
                have h7 : ents4.length = (fltL (l.take k) ++ [(2, l[k].n, l[k].a, [])]).length := by rw [← f1, List.length_map]
                rw [List.length_append] at h7
                have := HL.out
                simp only [List.length_cons, List.length_nil] at h7
                omega
              clear he
              go_wp2_with (first | (go_at_call 105; (with_reducible refine (EC.out _).mono ?_); rintro e w5 ⟨rfl, rfl⟩) | (go_at_call 73; (with_reducible refine (KC.out _ hb2).mono ?_); rintro e w6 ⟨v6, rfl, hT6, hb6⟩; obtain ⟨ents6, k1, k2, k3⟩ := TkO.base_le hT6 (Below.size hb2); have hel6 : ents6.length ≤ 20000000 := (by have h7 : ents6.length = (fltL l[k].k).length := (by rw [← k1, List.length_map]); have := HK.out; omega); have hbs := Below.size (hb2.trans hb6)) | (at_builtin; (refine wpList_append_row _ rfl _ _ 87 rfl w.heap.size w.heap.size 104 i0 (.agg #[.int .i64 0, .string ⟨#[]⟩, .slice none 0 0, .string ⟨#[]⟩]) 4 64 Tryz.underlying87 hi hz0 hz1 hz2 rfl (by decide) _ ents4.length (tkC ents4) rfl (own_bl f2 hb6) _ ents6.length (tkC ents6) rfl k2 (tkC_one ents6 (fun p hp => (k3 p hp).one)) (by unfold maxLen; omega) (by omega) hbs ?_)))
              intro v7 w7 hown7 hgrow7
              obtain ⟨hT7, hb7⟩ := tks_more hb2 f1 f2 f3 hb6 k1 k3 hown7 hgrow7
              have hq7 := (hq2.of_bl hb6).of_gr (own_bl f2 hb6) hgrow7
              obtain ⟨x0, x1, x2, x3⟩ := hq7.cells
              have hql7 := hq7.lt
              clear hown7 hgrow7 z0 z1 z2 z3 k2 k3 f2 f3
              obtain ⟨ents7, m1, m2, m3⟩ := hT7
              have hel7 : ents7.length ≤ 40000001 := by
                have h7 : ents7.length = (fltL (l.take k) ++ [(2, l[k].n, l[k].a, [])] ++ fltL l[k].k).length := by rw [← m1, List.length_map]
                rw [List.length_append, ← f1, ← k1] at h7
                simp only [List.length_map] at h7
                omega
              go_wp2_with (at_builtin; (refine wpList_append_own _ rfl _ _ 87 rfl w.heap.size 104 i0 (.agg #[.int .i64 0, .string ⟨#[]⟩, .slice none 0 0, .string ⟨#[]⟩]) 4 64 Tryz.underlying87 hi hz0 hz1 hz2 rfl (by decide) _ ents7.length (tkC ents7) rfl (own_bl m2 (by repeat (first | exact Bl.refl _ | refine Bl.drew ?_ | refine Bl.alloc ?_ _))) ⟨_, 0, none⟩ 1 1 [.int .i64 3, .string ⟨l[k].n.toArray⟩, .slice none 0 0, .string ⟨#[]⟩] rfl rfl (new_cells _ #[.int .i64 3, .string ⟨l[k].n.toArray⟩, .slice none 0 0, .string ⟨#[]⟩] _) (by simp [Value.oneCell']) (by unfold maxLen; omega) (by omega) (by have := Below.size hb7; simp; omega) ?_))
              intro v8 w8 hown8 hgrow8 _
              obtain ⟨hT8, hb8⟩ := tk_more (t := (3, l[k].n, [], [])) hb7 m1 m2 m3 (by repeat (first | exact Bl.refl _ | refine Bl.drew ?_ | refine Bl.alloc ?_ _)) (AtO.nil _ _) hown8 hgrow8
              clear hown8 hgrow8
              go_wp2
              go_roundw
              case rel => exact ⟨k + 1, by omega, by go_num, by rw [HS.out, HT.out, ← List.append_assoc, ← List.append_assoc]; exact hT8, hb8⟩
              case measure => simp [intOf]; omega
            · rw [he] at EC
              have HT := Lib.hid (flt_emp HNE.out he)
              clear he
              go_wp2_with (go_at_call 105; (with_reducible refine (EC.out _).mono ?_); rintro e w5 ⟨rfl, rfl⟩)
              go_roundw
              case rel => exact ⟨k + 1, by omega, by go_num, by rw [HS.out, HT.out]; exact hT2, hb2⟩
              case measure => simp [intOf]; omega
      · have HE := Lib.hid (show l.take k = l from List.take_of_length_le (by omega))
        go_wp2
        go_ret
        exact ⟨_, rfl, by rw [← HE.out]; exact hT, hb⟩
end Go.Proofs.YthnpljkekhieiaaGreatDoor

namespace Go.Proofs.YthnpljkekhieiaaGreatDoor
open Go.RowKit

theorem ctn_iff (l : List Nm) (n : Nm) : ((List.range l.length).any fun i => decide (n = l.getD i [])) = l.contains n := by
  rw [any_range (fun x => decide (n = x)) l [], Bool.eq_iff_iff, List.any_eq_true]
  simp
set_option maxHeartbeats 1000000 in
theorem indexS_c (l : List Nm) (v : Value) (nm : Nm) (hl : l.length ≤ 1099511627776) (w : World) (hA : StS w v l) :
    Calls Tryz.prog 152 #[v, .string ⟨nm.toArray⟩] w fun e w' => e = .returned (.int .i64 (ixB (fun i => decide (nm = l.getD i [])) l.length)) ∧ Bl w w' := by
  obtain ⟨ao, cap, rfl, hc, hA⟩ := hA
  go_enter Tryz.func152, Tryz.ntmps152
  go_wp2
  go_loopw [8] (fun i wr => ∃ k : Nat, k ≤ l.length ∧ i = .int .i64 k ∧ Hid (∀ j, j < k → decide (nm = l.getD j []) = false) ∧ Bl w wr) (fun i _ => l.length - (intOf i).toNat)
  case atStart => exact ⟨0, Nat.zero_le _, rfl, Lib.hid (fun j h => by omega), Bl.refl _⟩
  case round =>
    obtain ⟨k, hk, rfl, HP, hbl⟩ := hrel
    by_cases hlt : k < l.length
    · obtain ⟨g, o, rfl, hg, h1⟩ := hA k hlt
      have x1 := (hbl.cells.1 g _ hg).trans h1
      have HD := Lib.hid (show decide (nm = l.getD k []) = decide (nm = l[k]) by rw [getD_get _ _ _ hlt])
      obtain ⟨d, hd⟩ : ∃ d, d = l[k] := ⟨_, rfl⟩
      rw [← hd] at x1 HD
      clear h1 hA hd
      by_cases he : nm = d
      · have HF := Lib.hid (show decide (nm = l.getD k []) = true by rw [HD.out]; exact decide_eq_true he)
        have he' : (nm == d) = true := by simpa using he
        clear HD he
        go_wp2
        go_ret
        exact ⟨ret_int (ixB_hit _ _ k hlt HF.out HP.out).symm, hbl⟩
      · have HF := Lib.hid (show decide (nm = l.getD k []) = false by rw [HD.out]; exact decide_eq_false he)
        have he' : (nm == d) = false := by simpa using he
        clear HD he
        go_wp2
        go_roundw
        case rel =>
          refine ⟨k + 1, by omega, by go_num, Lib.hid (fun j hjk => ?_), hbl⟩
          by_cases e : j = k
          · subst e; exact HF.out
          · exact HP.out j (by omega)
        case measure => simp [intOf]; omega
    · go_wp2
      go_ret
      exact ⟨ret_int (ixB_miss _ _ (fun j hj => HP.out j (by omega))).symm, hbl⟩
theorem containsS_c (l : List Nm) (v : Value) (nm : Nm) (hl : l.length ≤ 1099511627776) (w : World) (hA : StS w v l) :
    Calls Tryz.prog 131 #[v, .string ⟨nm.toArray⟩] w fun e w' => e = .returned (.bool (l.contains nm)) ∧ Bl w w' := by
  have HI := Lib.hid (indexS_c l v nm hl w hA)
  have HX := Lib.hid ((ixB_any (fun i => decide (nm = l.getD i [])) l.length).trans (ctn_iff l nm))
  obtain ⟨ao, vc, rfl, -⟩ := hA
  go_enter Tryz.func131, Tryz.ntmps131
  go_wp2_with (go_at_call 152; (with_reducible refine HI.out.mono ?_); rintro e w' ⟨rfl, hb'⟩)
  go_ret
  exact ⟨ret_bool HX.out, hb'⟩
def strA (l : List Nm) : Array Value := (l.map fun n => Value.string ⟨n.toArray⟩).toArray
theorem sts_new (w : World) (l : List Nm) (e : TypeId) (c : Nat) (hc : l.length ≤ c) : StS (w.alloc (.cells (strA l) e)) (.slice (some ⟨w.heap.size, 0, none⟩) l.length c) l := by
  refine ⟨_, _, rfl, hc, fun i hi => ⟨w.heap.size, 0, rfl, by simp, ?_⟩⟩
  have := new_cells w (strA l) e i (.string ⟨l[i].toArray⟩) (by simp [strA, hi])
  rw [show (⟨w.heap.size, 0, none⟩ : Addr).add i = ⟨w.heap.size, 0 + i, none⟩ by unfold Addr.add; split <;> simp_all] at this
  exact this
set_option maxRecDepth 100000 in
theorem allowed_c (n : Nm) (w : World) : Calls Tryz.prog 98 #[.string ⟨n.toArray⟩] w fun e w' => e = .returned (.bool (alwN n)) ∧ Bl w w' := by
  have CC := Lib.hid (fun W (h : StS W (.slice (some ⟨w.heap.size, 0, none⟩) 14 14) alwL) => containsS_c alwL _ n (by decide) W h)
  have HS := Lib.hid (sts_new w alwL 9 14 (by decide))
  go_enter Tryz.func98, Tryz.ntmps98
  go_wp2_with (go_at_call 131; (with_reducible refine (CC.out _ HS.out).mono ?_); rintro e w' ⟨rfl, hb'⟩)
  go_ret
  exact ⟨ret_bool (by unfold alwN; simp), ((Bl.refl _).alloc _).trans hb'⟩
theorem link_c (n : Nm) (w : World) : Calls Tryz.prog 97 #[.string ⟨n.toArray⟩] w fun e w' => e = .returned (.bool (lnkN n)) ∧ w = w' := by
  go_enter Tryz.func97, Tryz.ntmps97
  go_wp2
  all_goals (go_ret; exact ⟨ret_bool (by rw [Bool.eq_iff_iff]; simp [lnkN, sHref, sSrc, *] <;> exact decide_eq_true_iff.symm), rfl⟩)
theorem attr_c (n : Nm) (a : Atr) (w : World) : Calls Tryz.prog 96 #[.string ⟨n.toArray⟩, atV a] w fun e w' => e = .returned (.bool (mayA n a.1)) ∧ Bl w w' := by
  obtain ⟨x, y⟩ := a
  unfold atV
  by_cases h1 : n = sA
  · subst h1
    have HM := Lib.hid (show mayA sA x = (decide (x = sHref) || decide (x = sTitle)) by unfold mayA; simp [sA, sImg])
    by_cases h2 : x = sHref
    · subst h2
      unfold sA sHref at *
      go_enter Tryz.func96, Tryz.ntmps96
      go_wp2
      go_ret
      exact ⟨ret_bool (by decide), (Bl.refl _).alloc _⟩
    · have HX := Lib.hid h2
      have h2' : (x == [104, 114, 101, 102]) = false := by simpa [sHref] using h2
      clear h2
      unfold sA
      go_enter Tryz.func96, Tryz.ntmps96
      go_wp2
      go_ret
      exact ⟨ret_bool (by rw [show mayA [97] x = _ from HM.out, decide_eq_false HX.out, Bool.false_or, Bool.eq_iff_iff]; simp [sTitle]; exact decide_eq_true_iff.symm), (Bl.refl _).alloc _⟩
  · have h1' : (n == [97]) = false := by simpa [sA] using h1
    by_cases h2 : n = sImg
    · subst h2
      have HM := Lib.hid (show mayA sImg x = (decide (x = sSrc) || decide (x = sAlt)) by unfold mayA; simp [sA, sImg])
      by_cases h3 : x = sSrc
      · subst h3
        unfold sImg sSrc at *
        go_enter Tryz.func96, Tryz.ntmps96
        go_wp2
        go_ret
        exact ⟨ret_bool (by decide), (Bl.refl _).alloc _⟩
      · have HX := Lib.hid h3
        have h3' : (x == [115, 114, 99]) = false := by simpa [sSrc] using h3
        clear h3 h1
        unfold sImg
        go_enter Tryz.func96, Tryz.ntmps96
        go_wp2
        go_ret
        exact ⟨ret_bool (by rw [show mayA [105, 109, 103] x = _ from HM.out, decide_eq_false HX.out, Bool.false_or, Bool.eq_iff_iff]; simp [sAlt]; exact decide_eq_true_iff.symm), (Bl.refl _).alloc _⟩
    · have h2' : (n == [105, 109, 103]) = false := by simpa [sImg] using h2
      have HM := Lib.hid (show mayA n x = false by unfold mayA; simp [h1, h2])
      clear h1 h2
      go_enter Tryz.func96, Tryz.ntmps96
      go_wp2
      go_ret
      exact ⟨ret_bool (by rw [HM.out]), (Bl.refl _).alloc _⟩
end Go.Proofs.YthnpljkekhieiaaGreatDoor

/- Trees: Size of the program; count of the reference. · Tokens: Check of the program. · Trees: node of the program (printed by gen_trenode.py). · Tokens: SameTokens. -/
import Derived.Test.YtkacjnifhmgeiaaGreatDoorGrpI
import Derived.Test.YtkacjnifhmgeiaaGreatDoorGrpE
import Derived.Test.YtkacjnifhmgeiaaGreatDoorGrpH
namespace Go.Proofs.YtkacjnifhmgeiaaGreatDoor
open Go.RowKit

def exN (f : Nat) (d : Nd) : Nat := if d.n = [] then 0 else match f with | 0 => 0 | f + 1 => manyL f d.k
def exL (f : Nat) (l : List Nd) : Nat := (l.map (exN f)).sum
theorem many_ex (f : Nat) (l : List Nd) : manyL f l = l.length + exL f l := by
  induction l with
  | nil => rfl
  | cons d l ih =>
    cases d with
    | mk n a x k =>
      have h : manyN f (.mk n a x k) = 1 + exN f (.mk n a x k) := by
        by_cases hn : n = [] <;> cases f <;> simp [manyN, exN, Nd.n, Nd.k, hn]
      simp only [manyL, h, ih, exL, List.map_cons, List.sum_cons, List.length_cons]; omega
theorem exL_snoc (f : Nat) (l : List Nd) (d : Nd) : exL f (l ++ [d]) = exL f l + exN f d := by simp [exL]
theorem deep_app (f : Nat) (l m : List Nd) : deepL f (l ++ m) = max (deepL f l) (deepL f m) := by
  induction l with
  | nil => simp [deepL]
  | cons d l ih => simp only [List.cons_append, deepL, ih]; omega
theorem deep_bd (l : List Nd) : ∀ f, deepL f l ≤ f + 1 := by
  induction l using Nd.ind with
  | h0 => intro f; simp [deepL]
  | h1 n a x k l ik il =>
    intro f
    have := il f
    simp only [deepL, deepN]
    by_cases hn : n = []
    · rw [if_pos hn]; omega
    · rw [if_neg hn]
      cases f with
      | zero => simp only []; omega
      | succ f => have := ik f; simp only []; omega
def dpE (f : Nat) (d : Nd) : Nat := if d.n = [] then 0 else match f with | 0 => 1 | f + 1 => 1 + deepL f d.k
theorem deep_snoc (f : Nat) (l : List Nd) (d : Nd) : deepL f (l ++ [d]) = max (deepL f l) (dpE f d) := by
  rw [deep_app]
  cases d with
  | mk n a x k => by_cases hn : n = [] <;> cases f <;> simp [deepL, deepN, dpE, Nd.n, Nd.k, hn]
theorem cnt_get : ∀ (l : List Nd) (i : Nat) (h : i < l.length), 1 + cntL l[i].k ≤ cntL l := by
  intro l
  induction l with
  | nil => intro i h; simp at h
  | cons d l ih =>
    intro i h
    cases d with
    | mk n a x k =>
      cases i with
      | zero => simp only [List.getElem_cons_zero, Nd.k, cntL, cntN]; omega
      | succ i => have := ih i (by simpa using h); simp only [List.getElem_cons_succ, cntL, cntN]; omega
theorem cnt_len (l : List Nd) : l.length ≤ cntL l := by
  induction l with
  | nil => simp [cntL]
  | cons d l ih => cases d with
    | mk n a x k => simp only [List.length_cons, cntL, cntN]; omega
set_option maxRecDepth 100000 in
set_option maxHeartbeats 2000000 in
theorem size_c (f : Nat) : ∀ (l : List Nd) (v : Value) (P : Nat → Prop) (w : World), cntL l ≤ 100000000 → f ≤ 100 → NdS w P v l →
    Calls Tryz.prog 27 #[v, .int .i64 f] w fun e w' => e = .returned (.tuple #[.int .i64 (manyL f l : Nat), .int .i64 (deepL f l : Nat)]) ∧ Bl w w' := by
  induction f with
  | zero =>
    intro l v P w hc hf hN
    obtain ⟨ao, cap, rfl, hcap, hN⟩ := hN.get
    have hlen := cnt_len l
    have HN := Lib.hid hN
    have HC := Lib.hid hc
    clear hN
    rw [show ((0 : Nat) : Int) = 0 from rfl]
    go_enter Tryz.func27, Tryz.ntmps27
    go_wp2
    go_loopw [6, 7, 16] (fun m d i wr => ∃ k : Nat, k ≤ l.length ∧ i = .int .i64 k ∧ m = .int .i64 ((l.length + exL 0 (l.take k) : Nat) : Int) ∧ d = .int .i64 ((deepL 0 (l.take k) : Nat) : Int) ∧ Bl w wr) (fun _ _ i _ => l.length - (intOf i).toNat)
    case atStart => exact ⟨0, Nat.zero_le _, rfl, by simp [exL], by simp [deepL], Bl.refl _⟩
    case round =>
      obtain ⟨k, hk, rfl, rfl, rfl, hb⟩ := hrel
      have hd1 := deep_bd (l.take k) 0
      by_cases hlt : k < l.length
      · obtain ⟨g, o, va, vk, rfl, hg, -, h1, h2, h3, h4, h5, h6⟩ := HN.out k hlt
        have y1 := (hb.cells.1 g _ hg).trans h1
        have y2 := (hb.cells.1 g _ hg).trans h2
        have y3 := (hb.cells.1 g _ hg).trans h3
        have y4 := (hb.cells.1 g _ hg).trans h4
        have hgk := cnt_get l k hlt
        have HK := Lib.hid (h6.of_bl hb)
        obtain ⟨a1, n1, c1, rfl⟩ : ∃ a n c, va = .slice a n c := by obtain ⟨a, c, e, -⟩ := h5; exact ⟨a, _, c, e⟩
        obtain ⟨a2, c2, rfl⟩ : ∃ a c, vk = .slice a l[k].k.length c := by obtain ⟨a, c, e, -⟩ := h6; exact ⟨a, c, e⟩
        have HE := Lib.hid (show exL 0 (l.take (k + 1)) = exL 0 (l.take k) + exN 0 l[k] by rw [take_snoc l k hlt, exL_snoc])
        have HD := Lib.hid (show deepL 0 (l.take (k + 1)) = max (deepL 0 (l.take k)) (dpE 0 l[k]) by rw [take_snoc l k hlt, deep_snoc])
        have hm1 : l.length + exL 0 (l.take k) ≤ 100000000 := by
          have h7 := many_ex 0 (l.take k)
          have h8 := many_le (l.take k) 0
          have h9 : cntL l = cntL (l.take k) + cntL (l.drop k) := by rw [← cnt_app, List.take_append_drop]
          have h10 := cnt_len (l.drop k)
          simp only [List.length_take, List.length_drop] at h7 h10
          have := HC.out
          omega
        clear h1 h2 h3 h4 h5 h6
        by_cases hn : l[k].n = []
        · have hne : l[k].n = [] := hn
          have E1 := Lib.hid (show exN 0 l[k] = 0 by unfold exN; rw [if_pos hn])
          have D1 := Lib.hid (show dpE 0 l[k] = 0 by unfold dpE; rw [if_pos hn])
          clear hn
          go_wp2
          go_roundw
          case rel => exact ⟨k + 1, by omega, by go_num, by rw [HE.out, E1.out]; rfl, by rw [HD.out, D1.out, Nat.max_eq_left (Nat.zero_le _)], hb.alloc _⟩
          case measure => simp [intOf]; omega
        · have hne : l[k].n.isEmpty = false := by cases e : l[k].n <;> simp_all
          have E1 := Lib.hid (show exN 0 l[k] = 0 by unfold exN; rw [if_neg hn])
          have D1 := Lib.hid (show dpE 0 l[k] = 1 by unfold dpE; rw [if_neg hn])
          clear hn
          go_wp2
          go_roundw
          case rel =>
            refine ⟨k + 1, by omega, by go_num, by rw [HE.out, E1.out]; rfl, ?_, hb.alloc _⟩
            rw [HD.out, D1.out]
            go_num
          case measure => simp [intOf]; omega
      · have HE := Lib.hid (show l.take k = l from List.take_of_length_le (by omega))
        have HM := Lib.hid (many_ex 0 l)
        go_wp2
        go_ret2
        exact ⟨by rw [HE.out, ← HM.out]; rfl, hb⟩
  | succ f ih =>
    intro l v P w hc hf hN
    obtain ⟨ao, cap, rfl, hcap, hN⟩ := hN.get
    have hlen := cnt_len l
    have HN := Lib.hid hN
    have IH := Lib.hid ih
    have HC := Lib.hid hc
    clear hN ih
    rw [show ((f + 1 : Nat) : Int) = (f : Int) + 1 by omega]
    go_enter Tryz.func27, Tryz.ntmps27
    go_wp2
    go_loopw [6, 7, 16] (fun m d i wr => ∃ k : Nat, k ≤ l.length ∧ i = .int .i64 k ∧ m = .int .i64 ((l.length + exL (f + 1) (l.take k) : Nat) : Int) ∧ d = .int .i64 ((deepL (f + 1) (l.take k) : Nat) : Int) ∧ Bl w wr) (fun _ _ i _ => l.length - (intOf i).toNat)
    case atStart => exact ⟨0, Nat.zero_le _, rfl, by simp [exL], by simp [deepL], Bl.refl _⟩
    case round =>
      obtain ⟨k, hk, rfl, rfl, rfl, hb⟩ := hrel
      have hd1 := deep_bd (l.take k) (f + 1)
      by_cases hlt : k < l.length
      · obtain ⟨g, o, va, vk, rfl, hg, -, h1, h2, h3, h4, h5, h6⟩ := HN.out k hlt
        have y1 := (hb.cells.1 g _ hg).trans h1
        have y2 := (hb.cells.1 g _ hg).trans h2
        have y3 := (hb.cells.1 g _ hg).trans h3
        have y4 := (hb.cells.1 g _ hg).trans h4
        have hgk := cnt_get l k hlt
        have HK := Lib.hid (h6.of_bl hb)
        obtain ⟨a1, n1, c1, rfl⟩ : ∃ a n c, va = .slice a n c := by obtain ⟨a, c, e, -⟩ := h5; exact ⟨a, _, c, e⟩
        obtain ⟨a2, c2, rfl⟩ : ∃ a c, vk = .slice a l[k].k.length c := by obtain ⟨a, c, e, -⟩ := h6; exact ⟨a, c, e⟩
        have HE := Lib.hid (show exL (f + 1) (l.take (k + 1)) = exL (f + 1) (l.take k) + exN (f + 1) l[k] by rw [take_snoc l k hlt, exL_snoc])
        have HD := Lib.hid (show deepL (f + 1) (l.take (k + 1)) = max (deepL (f + 1) (l.take k)) (dpE (f + 1) l[k]) by rw [take_snoc l k hlt, deep_snoc])
        have hm1 : l.length + exL (f + 1) (l.take k) ≤ 100000000 := by
          have h7 := many_ex (f + 1) (l.take k)
          have h8 := many_le (l.take k) (f + 1)
          have h9 : cntL l = cntL (l.take k) + cntL (l.drop k) := by rw [← cnt_app, List.take_append_drop]
          have h10 := cnt_len (l.drop k)
          simp only [List.length_take, List.length_drop] at h7 h10
          have := HC.out
          omega
        clear h1 h2 h3 h4 h5 h6
        by_cases hn : l[k].n = []
        · have hne : l[k].n = [] := hn
          have E1 := Lib.hid (show exN (f + 1) l[k] = 0 by unfold exN; rw [if_pos hn])
          have D1 := Lib.hid (show dpE (f + 1) l[k] = 0 by unfold dpE; rw [if_pos hn])
          clear hn
          go_wp2
          go_roundw
          case rel => exact ⟨k + 1, by omega, by go_num, by rw [HE.out, E1.out]; rfl, by rw [HD.out, D1.out, Nat.max_eq_left (Nat.zero_le _)], hb.alloc _⟩
          case measure => simp [intOf]; omega
        · have hne : l[k].n.isEmpty = false := by cases e : l[k].n <;> simp_all
          have E1 := Lib.hid (show exN (f + 1) l[k] = manyL f l[k].k by unfold exN; rw [if_neg hn])
          have D1 := Lib.hid (show dpE (f + 1) l[k] = 1 + deepL f l[k].k by unfold dpE; rw [if_neg hn])
          have SC := Lib.hid (fun (W : World) (hbW : Bl wr W) => IH.out l[k].k _ P W (by have := HC.out; omega) (by omega) (HK.out.of_bl hbW))
          have hf2 : (((f : Int) + 1) == 0) = false := by simp <;> omega
          have hmb : manyL f l[k].k ≤ 100000000 := by have := many_le l[k].k f; have := HC.out; omega
          have hdb := deep_bd l[k].k f
          clear hn
          go_wp2_with (go_at_call 27; (with_reducible refine (SC.out _ ((Bl.refl _).alloc _)).mono ?_); rintro e w2 ⟨rfl, hb2⟩)
          go_roundw
          case rel =>
            refine ⟨k + 1, by omega, by go_num, by rw [HE.out, E1.out]; go_num, ?_, Bl.trans (hb.alloc _) hb2⟩
            rw [HD.out, D1.out]
            go_num
          case measure => simp [intOf]; omega
      · have HE := Lib.hid (show l.take k = l from List.take_of_length_le (by omega))
        have HM := Lib.hid (many_ex (f + 1) l)
        go_wp2
        go_ret2
        exact ⟨by rw [HE.out, ← HM.out]; rfl, hb⟩
end Go.Proofs.YtkacjnifhmgeiaaGreatDoor

namespace Go.Proofs.YtkacjnifhmgeiaaGreatDoor
open Go.RowKit

theorem AtS.take {w : World} {g o c : Nat} {l : List Atr} (h : ∀ i (h : i < l.length), w.cell? ⟨g, o + i * 2, none⟩ = some (.string ⟨l[i].1.toArray⟩) ∧ w.cell? ⟨g, o + i * 2 + 1, none⟩ = some (.string ⟨l[i].2.toArray⟩)) (hg : g < w.heap.size) (k : Nat) (hk : k ≤ l.length) : AtS w (.slice (some ⟨g, o, none⟩) k c) (l.take k) := by
  have hl : (l.take k).length = k := by simp; omega
  refine ⟨some ⟨g, o, none⟩, c, by rw [hl], fun i hi => ?_⟩
  rw [hl] at hi
  have hi' : i < l.length := by omega
  refine ⟨g, o, rfl, hg, ?_, ?_⟩
  · have := (h i hi').1; simpa using this
  · have := (h i hi').2; simpa using this
theorem atEF_cons2 (p : List Atr) (a : Atr) (l : List Atr) : atEF p (a :: l) = if isNm a.1 = false then 1 else if (p.any (isN a.1)) then 6 else atEF (p ++ [a]) l := rfl

end Go.Proofs.YtkacjnifhmgeiaaGreatDoor

namespace Go.Proofs.YtkacjnifhmgeiaaGreatDoor
open Go.RowKit

theorem ndE_t1 {r : List Nm} {a : List Atr} {x : List UInt8} {k : List Nd} (h : x = [] ∨ a ≠ [] ∨ k ≠ []) : ndE r (.mk [] a x k) = 1 := by simp only [ndE, if_true]; rw [if_pos h]
theorem ndE_t0 {r : List Nm} {x : List UInt8} (h : x ≠ []) : ndE r (.mk [] [] x []) = 0 := by simp [ndE, h]
theorem ndE_e1 {r : List Nm} {n : Nm} {a : List Atr} {x : List UInt8} {k : List Nd} (hn : n ≠ []) (h : x ≠ [] ∨ isNm n = false ∨ (emptyN n = true ∧ k ≠ [])) : ndE r (.mk n a x k) = 1 := by simp only [ndE, if_neg hn]; rw [if_pos h]
theorem ndE_e2 {r : List Nm} {n : Nm} {a : List Atr} {k : List Nd} (hn : n ≠ []) (h1 : isNm n = true) (h2 : ¬ (emptyN n = true ∧ k ≠ [])) : ndE r (.mk n a [] k) = if atE a ≠ 0 then atE a else if cls r n < r.length then 4 else 0 := by
  simp only [ndE, if_neg hn]; rw [if_neg (by simp [h1]; simpa using h2)]
end Go.Proofs.YtkacjnifhmgeiaaGreatDoor

namespace Go.Proofs.YtkacjnifhmgeiaaGreatDoor
open Go.RowKit

instance decAtr : DecidableEq Atr := inferInstanceAs (DecidableEq (List UInt8 × List UInt8))
instance decTok : DecidableEq Tok := inferInstanceAs (DecidableEq (Int × List UInt8 × List Atr × List UInt8))
end Go.Proofs.YtkacjnifhmgeiaaGreatDoor

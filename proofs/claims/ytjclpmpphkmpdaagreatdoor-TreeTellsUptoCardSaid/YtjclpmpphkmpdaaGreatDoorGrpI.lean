/- Trees: kinds of elements; how many stay open. · Trees: stays; names; put; close. -/
import Derived.Test.YtjclpmpphkmpdaaGreatDoorGrpE
namespace Go.Proofs.YtjclpmpphkmpdaaGreatDoor
open Go.RowKit

theorem empty_c (n : Nm) (w : World) : Calls Tryz.prog 38 #[.string ⟨n.toArray⟩] w fun e w' => e = .returned (.bool (emptyN n)) ∧ w = w' := by
  go_enter Tryz.func38, Tryz.ntmps38
  go_wp2
  all_goals (go_ret; exact ⟨ret_bool (by rw [Bool.eq_iff_iff]; simp [emptyN, sBr, sHr, sImg, *] <;> exact decide_eq_true_iff.symm), rfl⟩)
theorem wall_c (n : Nm) (w : World) : Calls Tryz.prog 59 #[.string ⟨n.toArray⟩] w fun e w' => e = .returned (.bool (wallN n)) ∧ w = w' := by
  go_enter Tryz.func59, Tryz.ntmps59
  go_wp2
  all_goals (go_ret; exact ⟨ret_bool (by rw [Bool.eq_iff_iff]; simp [wallN, sUl, sOl, sLi, sBq, *] <;> exact decide_eq_true_iff.symm), rfl⟩)
theorem block_c (n : Nm) (w : World) : Calls Tryz.prog 58 #[.string ⟨n.toArray⟩] w fun e w' => e = .returned (.bool (blkN n)) ∧ w = w' := by
  go_enter Tryz.func58, Tryz.ntmps58
  go_wp2_with (go_at_call 59; (with_reducible refine (wall_c _ _).mono ?_); rintro e w' ⟨rfl, rfl⟩)
  all_goals (go_ret; exact ⟨ret_bool (by rw [Bool.eq_iff_iff]; simp [blkN, sP, sHr, *] <;> exact decide_eq_true_iff.symm), rfl⟩)
theorem ulol_c (n : Nm) (w : World) : Calls Tryz.prog 60 #[.string ⟨n.toArray⟩] w fun e w' => e = .returned (.bool (ulolN n)) ∧ w = w' := by
  go_enter Tryz.func60, Tryz.ntmps60
  go_wp2
  all_goals (go_ret; exact ⟨ret_bool (by rw [Bool.eq_iff_iff]; simp [ulolN, sUl, sOl, *] <;> exact decide_eq_true_iff.symm), rfl⟩)
theorem never_c (n : Nm) (w : World) : Calls Tryz.prog 49 #[.string ⟨n.toArray⟩] w fun e w' => e = .returned (.bool false) ∧ w = w' := by
  go_enter Tryz.func49, Tryz.ntmps49
  go_wp2
  go_ret
  exact ⟨rfl, rfl⟩
/-- A function that tells of a name. -/
structure DoN (N : Nat) (p : Nm → Bool) : Prop where
  cf : ∀ (args : Array Value) (W : World), Sem.run Tryz.prog (callFunc N args) W = .ok (.enter N args) W
  go : ∀ (n : Nm) W, Calls Tryz.prog N #[.string ⟨n.toArray⟩] W fun e w' => e = .returned (.bool (p n)) ∧ W = w'
theorem do_wall : DoN 59 wallN := ⟨fun args W => by simp [callFunc, go_sem, Tryz.func59, Tryz.f59], wall_c⟩
theorem do_ulol : DoN 60 ulolN := ⟨fun args W => by simp [callFunc, go_sem, Tryz.func60, Tryz.f60], ulol_c⟩
theorem do_never : DoN 49 (fun _ => false) := ⟨fun args W => by simp [callFunc, go_sem, Tryz.func49, Tryz.f49], never_c⟩
/-- A slice reads as these texts. -/
def StS (w : World) (v : Value) (l : List Nm) : Prop :=
  ∃ ao cap, v = .slice ao l.length cap ∧ l.length ≤ cap ∧ ∀ i (h : i < l.length), ∃ g o, ao = some ⟨g, o, none⟩ ∧ g < w.heap.size ∧ w.cell? ⟨g, o + i, none⟩ = some (.string ⟨l[i].toArray⟩)
theorem StS.of_bl {w w' : World} {v : Value} {l : List Nm} (h : StS w v l) (hb : Bl w w') : StS w' v l := by
  obtain ⟨ao, cap, rfl, hc, h⟩ := h
  refine ⟨ao, cap, rfl, hc, fun i hi => ?_⟩
  obtain ⟨g, o, h1, h2, h3⟩ := h i hi
  exact ⟨g, o, h1, Nat.lt_of_lt_of_le h2 (Below.size hb), (hb.cells.1 g _ h2).trans h3⟩
/-- The place of the innermost one; -1: there is none. -/
def abI (nm : Nm) (p : Nm → Bool) (l : List Nm) : Int := match abv nm p l.reverse with | some i => i | none => -1
theorem abI_nil (nm : Nm) (p : Nm → Bool) : abI nm p [] = -1 := rfl
theorem abI_snoc (nm : Nm) (p : Nm → Bool) (l : List Nm) (x : Nm) : abI nm p (l ++ [x]) = if x = nm then (l.length : Int) else if p x then -1 else abI nm p l := by
  unfold abI
  rw [List.reverse_append]
  simp only [List.reverse_singleton, List.singleton_append, abv, List.length_reverse]
  by_cases h : x = nm
  · rw [if_pos h, if_pos h]
  · rw [if_neg h, if_neg h]
    by_cases h2 : p x = true
    · rw [if_pos h2, if_pos h2]
    · rw [if_neg h2, if_neg h2]
theorem str_eq (a b : Nm) : decide ((⟨a.toArray⟩ : ByteArray) = ⟨b.toArray⟩) = decide (a = b) := by simp
set_option maxHeartbeats 1000000 in
theorem above_c (N : Nat) (p : Nm → Bool) (hD : DoN N p) (l : List Nm) (v : Value) (nm : Nm) (hl : l.length ≤ 1099511627776) (w : World) (hA : StS w v l) :
    Calls Tryz.prog 48 #[v, .string ⟨nm.toArray⟩, .func (.func N) #[] #[]] w fun e w' => e = .returned (.int .i64 (abI nm p l)) ∧ w = w' := by
  obtain ⟨ao, cap, rfl, hc, hA⟩ := hA
  have hcf := hD.cf
  have HD := Lib.hid hD.go
  clear hD
  go_enter Tryz.func48, Tryz.ntmps48
  go_wp2
  go_loop [7] (fun i => ∃ k : Int, -1 ≤ k ∧ k < l.length ∧ i = .int .i64 k ∧ Hid (abI nm p l = abI nm p (l.take (k + 1).toNat))) (fun i => (intOf i + 1).toNat)
  case atStart => exact ⟨(l.length : Int) - 1, by omega, by omega, rfl, Lib.hid (by rw [show ((l.length : Int) - 1 + 1).toNat = l.length by omega, List.take_length])⟩
  case round =>
    obtain ⟨k, hk1, hk2, rfl, HP⟩ := hrel
    by_cases h0 : 0 ≤ k
    · obtain ⟨j, rfl⟩ : ∃ j : Nat, k = (j : Int) := ⟨k.toNat, by omega⟩
      have hj : j < l.length := by omega
      obtain ⟨g, o, rfl, hg, h1⟩ := hA j hj
      have HE := Lib.hid (show abI nm p l = if l[j] = nm then (j : Int) else if p l[j] then -1 else abI nm p (l.take j) by
        rw [HP.out, show ((j : Int) + 1).toNat = j + 1 by omega, take_snoc l j hj, abI_snoc, List.length_take, Nat.min_eq_left (by omega)])
      clear hA HP hk1
      by_cases he : l[j] = nm
      · have HF := Lib.hid (show abI nm p l = j by rw [HE.out, if_pos he])
        have he' : (l[j] == nm) = true := by simpa using he
        clear he
        go_wp2
        go_ret
        exact ⟨ret_int HF.out.symm, rfl⟩
      · have HF := Lib.hid (show abI nm p l = if p l[j] then -1 else abI nm p (l.take j) by rw [HE.out, if_neg he])
        have he' : (l[j] == nm) = false := by simpa using he
        have HG := Lib.hid (HD.out l[j] w)
        clear he
        cases hp : p l[j]
        · have HI := Lib.hid (show abI nm p l = abI nm p (l.take j) by rw [HF.out, hp]; rfl)
          rw [hp] at HG
          clear hp
          go_wp2_with (with_reducible refine HG.out.mono ?_; rintro e w' ⟨rfl, rfl⟩)
          go_round
          case rel => exact ⟨(j : Int) - 1, by omega, by omega, rfl, Lib.hid (by rw [HI.out, show ((j : Int) - 1 + 1).toNat = j by omega])⟩
          case measure => simp [intOf] <;> omega
        · have HI := Lib.hid (show abI nm p l = -1 by rw [HF.out, hp]; rfl)
          rw [hp] at HG
          clear hp
          go_wp2_with (with_reducible refine HG.out.mono ?_; rintro e w' ⟨rfl, rfl⟩)
          go_ret
          exact ⟨ret_int HI.out.symm, rfl⟩
    · have HF := Lib.hid (show abI nm p l = -1 by rw [HP.out, show (k + 1).toNat = 0 by omega]; rfl)
      clear hA HP
      go_wp2
      go_ret
      exact ⟨ret_int HF.out.symm, rfl⟩
end Go.Proofs.YtjclpmpphkmpdaaGreatDoor

namespace Go.Proofs.YtjclpmpphkmpdaaGreatDoor
open Go.RowKit

theorem abI_some {nm : Nm} {p : Nm → Bool} {l : List Nm} {i : Nat} (h : abv nm p l.reverse = some i) : abI nm p l = i ∧ i < l.length := by
  refine ⟨by unfold abI; rw [h], ?_⟩
  have := abv_lt _ _ _ _ h
  simpa using this
theorem abI_none {nm : Nm} {p : Nm → Bool} {l : List Nm} (h : abv nm p l.reverse = none) : abI nm p l = -1 := by unfold abI; rw [h]
theorem StS.take {w : World} {g o c : Nat} {l : List Nm} (h : StS w (.slice (some ⟨g, o, none⟩) l.length c) l) (k : Nat) (hk : k ≤ l.length) : StS w (.slice (some ⟨g, o, none⟩) k c) (l.take k) := by
  obtain ⟨ao, cap, e, hc, h⟩ := h
  cases e
  have hl : (l.take k).length = k := by simp; omega
  refine ⟨_, _, by rw [hl], by omega, fun i hi => ?_⟩
  rw [hl] at hi
  obtain ⟨g', o', e, h1, h2⟩ := h i (by omega)
  cases e
  exact ⟨g, o, rfl, h1, by simpa using h2⟩
/-- How many stay open, of names the outermost first. -/
def stI (l : List Nm) (nm : Nm) : Nat := cls l.reverse nm
theorem rev_take (l : List Nm) (i : Nat) (_h : i ≤ l.length) : (l.take i).reverse = l.reverse.drop (l.length - i) := by
  rw [List.reverse_take]
theorem cls_pl {r : List Nm} {nm : Nm} (hb : blkN nm = false) : cls r nm = r.length := by
  have h : nm ≠ sLi := by rintro rfl; revert hb; decide
  unfold cls cls1
  rw [if_neg h, if_neg (by simp [hb])]
theorem cls_bk {r : List Nm} {nm : Nm} (hb : blkN nm = true) (h : nm ≠ sLi) : cls r nm = (abv sP wallN r).getD r.length := by
  unfold cls cls1
  rw [if_neg h, if_pos hb]
theorem cls_li {r : List Nm} : cls r sLi = (abv sLi ulolN (r.drop (r.length - (abv sP wallN r).getD r.length))).getD ((abv sP wallN r).getD r.length) := by
  unfold cls cls1
  rw [if_pos rfl, if_pos (by decide)]
set_option maxHeartbeats 1000000 in
theorem stays_c (l : List Nm) (v : Value) (nm : Nm) (hl : l.length ≤ 1099511627776) (w : World) (hA : StS w v l) :
    Calls Tryz.prog 46 #[v, .string ⟨nm.toArray⟩] w fun e w' => e = .returned (.int .i64 (stI l nm)) ∧ w = w' := by
  have A1 := fun v l (h : StS w v l) (hl : l.length ≤ 1099511627776) => (show Calls Tryz.prog 48 #[v, .string ⟨#[112]⟩, .func (.func 59) #[] #[]] w (fun e w' => e = .returned (.int .i64 (abI sP wallN l)) ∧ w = w') from above_c _ _ do_wall l v sP hl w h)
  have A2 := fun v l (h : StS w v l) (hl : l.length ≤ 1099511627776) => (show Calls Tryz.prog 48 #[v, .string ⟨#[108, 105]⟩, .func (.func 60) #[] #[]] w (fun e w' => e = .returned (.int .i64 (abI sLi ulolN l)) ∧ w = w') from above_c _ _ do_ulol l v sLi hl w h)
  have BC := block_c nm w
  cases hb : blkN nm
  · have HR := Lib.hid (show stI l nm = l.length by unfold stI; rw [cls_pl hb]; simp)
    have h1 : (nm == [108, 105]) = false := by
      have : nm ≠ sLi := by rintro rfl; revert hb; decide
      simpa [sLi] using this
    rw [hb] at BC
    have BC := Lib.hid BC
    obtain ⟨ao, cap, rfl, hc, -⟩ := hA
    clear hb A1 A2
    go_enter Tryz.func46, Tryz.ntmps46
    go_wp2_with (go_at_call 58; (with_reducible refine BC.out.mono ?_); rintro e w' ⟨rfl, rfl⟩)
    go_ret
    exact ⟨ret_int (by rw [HR.out]), rfl⟩
  · rw [hb] at BC
    have BC := Lib.hid BC
    cases e1 : abv sP wallN l.reverse with
    | none =>
      have B1 := A1 v l hA hl
      rw [abI_none e1] at B1
      have B1 := Lib.hid B1
      by_cases hli : nm = sLi
      · subst hli
        have h1 : (sLi == [108, 105]) = true := by decide
        cases e2 : abv sLi ulolN l.reverse with
        | none =>
          have B2 := A2 v l hA hl
          rw [abI_none e2] at B2
          have B2 := Lib.hid B2
          have HR := Lib.hid (show stI l sLi = l.length by unfold stI; rw [cls_li, e1]; simp [e2])
          obtain ⟨ao, cap, rfl, hc, -⟩ := hA
          clear A1 A2 e1 e2 hb
          go_enter Tryz.func46, Tryz.ntmps46
          go_wp2_with (first | (go_at_call 58; (with_reducible refine BC.out.mono ?_); rintro e w' ⟨rfl, rfl⟩) | (go_at_call 48; (with_reducible refine B1.out.mono ?_); rintro e w' ⟨rfl, rfl⟩) | (go_at_call 48; (with_reducible refine B2.out.mono ?_); rintro e w' ⟨rfl, rfl⟩))
          go_ret
          exact ⟨ret_int (by rw [HR.out]), rfl⟩
        | some j =>
          obtain ⟨q1, q2⟩ := abI_some e2
          have B2 := A2 v l hA hl
          rw [q1] at B2
          have B2 := Lib.hid B2
          have HR := Lib.hid (show stI l sLi = j by unfold stI; rw [cls_li, e1]; simp [e2])
          obtain ⟨ao, cap, rfl, hc, h⟩ := hA
          obtain ⟨g, o, rfl, -⟩ := h j q2
          have q3 : (j : Int) ≤ (cap : Int) := by omega
          clear A1 A2 e1 e2 hb h q1
          go_enter Tryz.func46, Tryz.ntmps46
          go_wp2_with (first | (go_at_call 58; (with_reducible refine BC.out.mono ?_); rintro e w' ⟨rfl, rfl⟩) | (go_at_call 48; (with_reducible refine B1.out.mono ?_); rintro e w' ⟨rfl, rfl⟩) | (go_at_call 48; (with_reducible refine B2.out.mono ?_); rintro e w' ⟨rfl, rfl⟩))
          go_ret
          exact ⟨ret_int (by rw [HR.out]), rfl⟩
      · have h1 : (nm == [108, 105]) = false := by simpa [sLi] using hli
        have HR := Lib.hid (show stI l nm = l.length by unfold stI; rw [cls_bk hb hli, e1]; simp)
        obtain ⟨ao, cap, rfl, hc, -⟩ := hA
        clear A1 A2 e1 hb hli
        go_enter Tryz.func46, Tryz.ntmps46
        go_wp2_with (first | (go_at_call 58; (with_reducible refine BC.out.mono ?_); rintro e w' ⟨rfl, rfl⟩) | (go_at_call 48; (with_reducible refine B1.out.mono ?_); rintro e w' ⟨rfl, rfl⟩))
        go_ret
        exact ⟨ret_int (by rw [HR.out]), rfl⟩
    | some i =>
      obtain ⟨p1, p2⟩ := abI_some e1
      have B1 := A1 v l hA hl
      rw [p1] at B1
      have B1 := Lib.hid B1
      obtain ⟨ao, cap, rfl, hc, h⟩ := hA
      obtain ⟨g, o, rfl, -⟩ := h i p2
      have hA' : StS w (.slice (some ⟨g, o, none⟩) i cap) (l.take i) := StS.take ⟨_, _, rfl, hc, h⟩ i (by omega)
      have hl' : (l.take i).length = i := by simp; omega
      have hdr : l.reverse.drop (l.reverse.length - i) = (l.take i).reverse := by rw [rev_take l i (by omega)]; simp
      have p3 : (i : Int) ≤ (cap : Int) := by omega
      by_cases hli : nm = sLi
      · subst hli
        have h1 : (sLi == [108, 105]) = true := by decide
        cases e2 : abv sLi ulolN (l.take i).reverse with
        | none =>
          have B2 := A2 _ _ hA' (by omega)
          rw [abI_none e2] at B2
          have B2 := Lib.hid B2
          have HR := Lib.hid (show stI l sLi = i by unfold stI; rw [cls_li, e1, Option.getD_some, hdr, e2]; rfl)
          clear A1 A2 e1 e2 hb h hA' hl' hdr p1
          go_enter Tryz.func46, Tryz.ntmps46
          go_wp2_with (first | (go_at_call 58; (with_reducible refine BC.out.mono ?_); rintro e w' ⟨rfl, rfl⟩) | (go_at_call 48; (with_reducible refine B1.out.mono ?_); rintro e w' ⟨rfl, rfl⟩) | (go_at_call 48; (with_reducible refine B2.out.mono ?_); rintro e w' ⟨rfl, rfl⟩))
          go_ret
          exact ⟨ret_int (by rw [HR.out]), rfl⟩
        | some j =>
          obtain ⟨q1, q2⟩ := abI_some e2
          have B2 := A2 _ _ hA' (by omega)
          rw [q1] at B2
          have B2 := Lib.hid B2
          have HR := Lib.hid (show stI l sLi = j by unfold stI; rw [cls_li, e1, Option.getD_some, hdr, e2]; rfl)
          have q3 : (j : Int) ≤ (cap : Int) := by omega
          clear A1 A2 e1 e2 hb h hA' hl' hdr p1 q1
          go_enter Tryz.func46, Tryz.ntmps46
          go_wp2_with (first | (go_at_call 58; (with_reducible refine BC.out.mono ?_); rintro e w' ⟨rfl, rfl⟩) | (go_at_call 48; (with_reducible refine B1.out.mono ?_); rintro e w' ⟨rfl, rfl⟩) | (go_at_call 48; (with_reducible refine B2.out.mono ?_); rintro e w' ⟨rfl, rfl⟩))
          go_ret
          exact ⟨ret_int (by rw [HR.out]), rfl⟩
      · have h1 : (nm == [108, 105]) = false := by simpa [sLi] using hli
        have HR := Lib.hid (show stI l nm = i by unfold stI; rw [cls_bk hb hli, e1]; rfl)
        clear A1 A2 e1 hb hli h hA' hl' hdr p1
        go_enter Tryz.func46, Tryz.ntmps46
        go_wp2_with (first | (go_at_call 58; (with_reducible refine BC.out.mono ?_); rintro e w' ⟨rfl, rfl⟩) | (go_at_call 48; (with_reducible refine B1.out.mono ?_); rintro e w' ⟨rfl, rfl⟩))
        go_ret
        exact ⟨ret_int (by rw [HR.out]), rfl⟩
end Go.Proofs.YtjclpmpphkmpdaaGreatDoor

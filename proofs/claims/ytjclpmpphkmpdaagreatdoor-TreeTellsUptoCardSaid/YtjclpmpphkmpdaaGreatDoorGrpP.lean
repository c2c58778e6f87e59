/- Trees: the reference's FlatOf. · Tokens: one; Check of the program. -/
import Derived.Test.YtjclpmpphkmpdaaGreatDoorTreV
import Derived.Test.YtjclpmpphkmpdaaGreatDoorGrpL
import Derived.Test.YtjclpmpphkmpdaaGreatDoorTokW
namespace Go.Proofs.YtjclpmpphkmpdaaGreatDoor
open Go.RowKit

/-- Attributes that are read, appended to an own row. -/
theorem run_append_ats {P : Program} (w : World) (base : Nat) (t ty e : TypeId) (i : TypeInfo) (z : Value) (bytes : Nat) (ht : P.underlying t = some (.slice e)) (hi : P.info? e = some i) (hz : i.zero = some z)
    (hsize : i.size = 2) (hby : i.bytes = bytes) (hzs : z.cells.size = 2)
    (v : Value) (n : Nat) (xs : List Value) (hown : w.ownsRow base e 2 v n xs) (va : Value) (al : List Atr) (hA : AtS w va al)
    (h63 : n + al.length ≤ maxLen) (hbytes : (n + al.length) * bytes ≤ 140737488355328) (hbase : base ≤ w.heap.size) :
    ∃ v' w', (Builtin.append_ #[t, t] ty #[v, va]).run P w = .ok v' w' ∧ w'.ownsRow base e 2 v' (n + al.length) (xs ++ atC al) ∧ w.grownBy w' v.ownBlock := by
  have hA' := hA
  obtain ⟨ao, cap, rfl, hA⟩ := hA
  cases ao with
  | none =>
    have h0 : al = [] := by
      rcases al with _ | ⟨a, al⟩
      · rfl
      · obtain ⟨g, o, e, _⟩ := hA 0 (by simp); cases e
    subst h0
    refine ⟨v, w, ?_, by simpa [atC] using hown, gb_bl (b := v.ownBlock) (Bl.refl w)⟩
    rcases hown.2 with ⟨rfl, rfl⟩ | ⟨g, cap, cur, rfl, _, _, hnc, _⟩
    · simp [Builtin.append_, run_underlying ht, sizeOf, typeInfo, hi, Builtin.lenOf, Builtin.firstCells]
    · simp [Builtin.append_, run_underlying ht, sizeOf, typeInfo, hi, Builtin.lenOf, Builtin.firstCells, hnc, storeCells]
  | some a =>
    have hnews : ∀ j u, (atC al)[j]? = some u → w.cell? (a.add j) = some u := by
      rcases al with _ | ⟨b, al⟩
      · intro j u h; simp [atC] at h
      · obtain ⟨g, o, e, _⟩ := hA 0 (by simp)
        cases e
        exact ats_news hA'
    obtain ⟨v', w', hr, h2, h3, _⟩ := run_append_own (P := P) w base t ty e i z 2 bytes ht hi hz hsize hby hzs (by decide) v n xs hown a al.length cap (atC al) (atC_len al) hnews (atC_one al) h63 hbytes hbase
    exact ⟨v', w', hr, h2, h3⟩
theorem step_append_ats {P : Program} {ops : Array Oper} {o : Oper} {a : Act} {w : World} {K : Act → World → Prop} {Q : Exit → Act → World → Prop} {E : Prop}
    (hgd : o.guard = none) (s x : Operand) (t : TypeId) (hop : o.op = Op.call { callee := Callee.builtin Builtin.append, args := #[s, x], argTypes := #[t, t] })
    (base : Nat) (e : TypeId) (i : TypeInfo) (z : Value) (bytes : Nat) (ht : P.underlying t = some (.slice e)) (hi : P.info? e = some i) (hz : i.zero = some z)
    (hsize : i.size = 2) (hby : i.bytes = bytes) (hzs : z.cells.size = 2)
    (v : Value) (n : Nat) (xs : List Value) (hs : a.eval s = v) (hown : w.ownsRow base e 2 v n xs) (va : Value) (al : List Atr) (hx : a.eval x = va) (hA : AtS w va al)
    (h63 : n + al.length ≤ maxLen) (hbytes : (n + al.length) * bytes ≤ 140737488355328) (hbase : base ≤ w.heap.size)
    (hK : ∀ v' w', w'.ownsRow base e 2 v' (n + al.length) (xs ++ atC al) → w.grownBy w' v.ownBlock → K (a.put o.dst v') w') :
    if Region.wanted o (yielded ops a.tmps) = true then Oper.wp P o a w K Q else E := by
  have hw : Region.wanted o (yielded ops a.tmps) = true := by simp [Region.wanted, hgd]
  rw [if_pos hw]
  obtain ⟨v', w', hrun, h2, h3⟩ := run_append_ats (P := P) w base t o.type e i z bytes ht hi hz hsize hby hzs v n xs hown va al hA h63 hbytes hbase
  unfold Oper.wp
  simp [execOp, hop, resolve, invoke, builtin, hs, hx, hrun, Result.andThen]
  exact hK v' w' h2 h3
end Go.Proofs.YtjclpmpphkmpdaaGreatDoor

namespace Go.Proofs.YtjclpmpphkmpdaaGreatDoor
open Go.RowKit

def tkV (t : Tok) (va : Value) : Value := .agg #[.int .i64 t.1, .string ⟨t.2.1.toArray⟩, va, .string ⟨t.2.2.2.toArray⟩]
theorem tkE_kind {t : Tok} (h : t.1 < 1 ∨ 3 < t.1) : tkE t = 7 := by unfold tkE; rw [if_pos h]
theorem tkE_form {t : Tok} (h : ¬ (t.1 < 1 ∨ 3 < t.1)) (h2 : t.1 = 1 ∧ (t.2.1 ≠ [] ∨ t.2.2.1 ≠ [] ∨ t.2.2.2 = []) ∨ t.1 ≠ 1 ∧ t.2.2.2 ≠ [] ∨ t.1 = 3 ∧ t.2.2.1 ≠ []) : tkE t = 1 := by unfold tkE; rw [if_neg h, if_pos h2]
theorem tkE_text {t : Tok} (h : t.1 = 1) (h1 : t.2.1 = []) (h2 : t.2.2.1 = []) (h3 : t.2.2.2 ≠ []) : tkE t = 0 := by
  unfold tkE; rw [if_neg (by omega), if_neg (by simp [h, h1, h2, h3]), if_pos h]
theorem tkE_name {t : Tok} (h : t.1 = 2 ∨ t.1 = 3) (h1 : t.2.2.2 = []) (h2 : t.1 = 3 → t.2.2.1 = []) : tkE t = if isNm t.2.1 = false then 1 else atE t.2.2.1 := by
  unfold tkE
  rw [if_neg (by omega), if_neg, if_neg (by omega)]
  rintro (⟨a, _⟩ | ⟨_, b⟩ | ⟨c, d⟩)
  · omega
  · exact b h1
  · exact d (h2 c)
theorem emp {l : List UInt8} (h : l ≠ []) : l.isEmpty = false := by cases l <;> simp_all

set_option maxRecDepth 100000 in
set_option maxHeartbeats 4000000 in
theorem one_c (t : Tok) (va : Value) (hl : t.2.2.1.length ≤ 1099511627776) (hn : ∀ a ∈ t.2.2.1, a.1.length ≤ 1099511627776) (hnn : t.2.1.length ≤ 1099511627776) (w : World) (hA : AtS w va t.2.2.1) (hC : CapOk va) :
    Calls Tryz.prog 34 #[tkV t va] w fun e w' => e = .returned (.int .i64 (tkE t)) ∧ Bl w w' := by
  have AC := Lib.hid (fun W (hb : Bl w W) => attrsE_c t.2.2.1 va hl hn W (hA.of_bl hb) hC)
  have NC := Lib.hid (fun W => name_c t.2.1 (by omega) W)
  obtain ⟨ao, c, rfl, -⟩ := hA
  obtain ⟨k, n, al, x⟩ := t
  simp only [] at AC NC hl hnn ⊢
  unfold tkV
  simp only []
  have hAl : al ≠ [] → (0 : Int) < (al.length : Int) := fun h => by have := List.length_pos_iff.2 h; omega
  have HK := Lib.hid (fun h => tkE_kind (t := (k, n, al, x)) h)
  have HF := Lib.hid (fun h h2 => tkE_form (t := (k, n, al, x)) h h2)
  have HT := Lib.hid (fun h h1 h2 h3 => tkE_text (t := (k, n, al, x)) h h1 h2 h3)
  have HN := Lib.hid (fun h h1 h2 => tkE_name (t := (k, n, al, x)) h h1 h2)
  rcases (show k < 1 ∨ 3 < k ∨ k = 1 ∨ k = 2 ∨ k = 3 by omega) with hk | hk | hk | hk | hk
  · have HE := Lib.hid (HK.out (Or.inl hk))
    clear HK HF HT HN hAl
    go_enter Tryz.func34, Tryz.ntmps34
    go_wp2
    go_ret
    exact ⟨by rw [HE.out]; rfl, (Bl.refl _).alloc _⟩
  · have HE := Lib.hid (HK.out (Or.inr hk))
    have hk1 : ¬ k < 1 := by omega
    clear HK HF HT HN hAl
    go_enter Tryz.func34, Tryz.ntmps34
    go_wp2
    go_ret
    exact ⟨by rw [HE.out]; rfl, (Bl.refl _).alloc _⟩
  · subst hk
    by_cases h1 : n = []
    · subst h1
      by_cases h2 : al = []
      · subst h2
        by_cases h3 : x = []
        · subst h3
          have HE := Lib.hid (HF.out (by simp) (Or.inl ⟨rfl, Or.inr (Or.inr rfl)⟩))
          clear HK HF HT HN hAl
          go_enter Tryz.func34, Tryz.ntmps34
          go_wp2
          go_ret
          exact ⟨by rw [HE.out]; rfl, (Bl.refl _).alloc _⟩
        · have HE := Lib.hid (HT.out rfl rfl rfl h3)
          have hx := emp h3
          clear HK HF HT HN hAl
          clear h3
          go_enter Tryz.func34, Tryz.ntmps34
          go_wp2
          go_ret
          exact ⟨by rw [HE.out]; rfl, (Bl.refl _).alloc _⟩
      · have HE := Lib.hid (HF.out (by simp) (Or.inl ⟨rfl, Or.inr (Or.inl h2)⟩))
        have hal := hAl h2
        have hal2 : 0 < al.length := List.length_pos_iff.2 h2
        clear HK HF HT HN hAl
        go_enter Tryz.func34, Tryz.ntmps34
        go_wp2
        go_ret
        exact ⟨by rw [HE.out]; rfl, (Bl.refl _).alloc _⟩
    · have HE := Lib.hid (HF.out (by simp) (Or.inl ⟨rfl, Or.inl h1⟩))
      have hx := emp h1
      clear HK HF HT HN hAl
      clear h1
      go_enter Tryz.func34, Tryz.ntmps34
      go_wp2
      go_ret
      exact ⟨by rw [HE.out]; rfl, (Bl.refl _).alloc _⟩
  · subst hk
    by_cases h3 : x = []
    · subst h3
      cases hN : isNm n
      · rw [hN] at NC
        have HE := Lib.hid (show tkE (2, n, al, []) = 1 by rw [HN.out (by simp) rfl (by simp)]; simp only [hN, if_true])
        clear hN HK HF HT HN hAl
        go_enter Tryz.func34, Tryz.ntmps34
        go_wp2_with (first | (go_at_call 43; (with_reducible refine (NC.out _).mono ?_); rintro e w7 ⟨rfl, rfl⟩) | (go_at_call 44; (with_reducible refine (AC.out _ ((Bl.refl _).alloc _)).mono ?_); rintro e w8 ⟨rfl, hb8⟩))
        go_ret
        exact ⟨by rw [HE.out]; rfl, (Bl.refl _).alloc _⟩
      · rw [hN] at NC
        have HE := Lib.hid (show tkE (2, n, al, []) = atE al by rw [HN.out (by simp) rfl (by simp)]; simp only [hN, Bool.true_eq_false, if_false])
        clear hN HK HF HT HN hAl
        go_enter Tryz.func34, Tryz.ntmps34
        go_wp2_with (first | (go_at_call 43; (with_reducible refine (NC.out _).mono ?_); rintro e w7 ⟨rfl, rfl⟩) | (go_at_call 44; (with_reducible refine (AC.out _ ((Bl.refl _).alloc _)).mono ?_); rintro e w8 ⟨rfl, hb8⟩))
        go_ret
        exact ⟨by rw [HE.out]; rfl, ((Bl.refl _).alloc _).trans hb8⟩
    · have HE := Lib.hid (HF.out (by simp) (Or.inr (Or.inl ⟨by simp, h3⟩)))
      have hx := emp h3
      clear HK HF HT HN hAl
      clear h3
      go_enter Tryz.func34, Tryz.ntmps34
      go_wp2
      go_ret
      exact ⟨by rw [HE.out]; rfl, (Bl.refl _).alloc _⟩
  · subst hk
    by_cases h3 : x = []
    · subst h3
      by_cases h2 : al = []
      · subst h2
        simp only [List.length_nil] at AC
        cases hN : isNm n
        · rw [hN] at NC
          have HE := Lib.hid (show tkE (3, n, [], []) = 1 by rw [HN.out (by simp) rfl (by simp)]; simp only [hN, if_true])
          clear hN HK HF HT HN hAl
          go_enter Tryz.func34, Tryz.ntmps34
          go_wp2_with (first | (go_at_call 43; (with_reducible refine (NC.out _).mono ?_); rintro e w7 ⟨rfl, rfl⟩) | (go_at_call 44; (with_reducible refine (AC.out _ ((Bl.refl _).alloc _)).mono ?_); rintro e w8 ⟨rfl, hb8⟩))
          go_ret
          exact ⟨by rw [HE.out]; rfl, (Bl.refl _).alloc _⟩
        · rw [hN] at NC
          have HE := Lib.hid (show tkE (3, n, [], []) = atE [] by rw [HN.out (by simp) rfl (by simp)]; simp only [hN, Bool.true_eq_false, if_false])
          clear hN HK HF HT HN hAl
          go_enter Tryz.func34, Tryz.ntmps34
          go_wp2_with (first | (go_at_call 43; (with_reducible refine (NC.out _).mono ?_); rintro e w7 ⟨rfl, rfl⟩) | (go_at_call 44; (with_reducible refine (AC.out _ ((Bl.refl _).alloc _)).mono ?_); rintro e w8 ⟨rfl, hb8⟩))
          go_ret
          exact ⟨by rw [HE.out]; rfl, ((Bl.refl _).alloc _).trans hb8⟩
      · have HE := Lib.hid (HF.out (by simp) (Or.inr (Or.inr ⟨rfl, h2⟩)))
        have hal := hAl h2
        have hal2 : 0 < al.length := List.length_pos_iff.2 h2
        clear HK HF HT HN hAl
        go_enter Tryz.func34, Tryz.ntmps34
        go_wp2
        go_ret
        exact ⟨by rw [HE.out]; rfl, (Bl.refl _).alloc _⟩
    · have HE := Lib.hid (HF.out (by simp) (Or.inr (Or.inl ⟨by simp, h3⟩)))
      have hx := emp h3
      clear HK HF HT HN hAl
      clear h3
      go_enter Tryz.func34, Tryz.ntmps34
      go_wp2
      go_ret
      exact ⟨by rw [HE.out]; rfl, (Bl.refl _).alloc _⟩
end Go.Proofs.YtjclpmpphkmpdaaGreatDoor

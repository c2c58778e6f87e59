/- Trees: slices.Clone of texts; check of the program. · Trees: check of the program. -/
import Derived.Test.YtkacjnifhmgeiaaGreatDoorGrpJ
import Derived.Test.YtkacjnifhmgeiaaGreatDoorGrpH
import Derived.Test.YtkacjnifhmgeiaaGreatDoorTreR
import Derived.Deep.AppendLies
namespace Go.Proofs.YtkacjnifhmgeiaaGreatDoor
open Go.RowKit

theorem addr_at (g o j : Nat) : (⟨g, o, none⟩ : Addr).add j = ⟨g, o + j, none⟩ := by unfold Addr.add; split <;> simp_all
theorem strV_one (l : List Nm) : ∀ u ∈ strV l, u.oneCell' = true := by
  intro u hu
  obtain ⟨n, _, rfl⟩ := List.mem_map.1 hu
  rfl
theorem sts_news {w : World} {g o c : Nat} {l : List Nm} (h : StS w (.slice (some ⟨g, o, none⟩) l.length c) l) : ∀ j u, (strV l)[j]? = some u → w.cell? ((⟨g, o, none⟩ : Addr).add j) = some u := by
  intro j u hj
  obtain ⟨ao, cap, e, _, h⟩ := h
  cases e
  rw [addr_at]
  unfold strV at hj
  rw [List.getElem?_map] at hj
  cases e2 : l[j]? with
  | none => rw [e2] at hj; simp at hj
  | some n =>
    rw [e2] at hj
    obtain ⟨hjl, e3⟩ := List.getElem?_eq_some_iff.1 e2
    obtain ⟨g', o', e4, _, h3⟩ := h j hjl
    cases e4
    rw [h3, e3]
    simpa using hj
end Go.Proofs.YtkacjnifhmgeiaaGreatDoor

namespace Go.Proofs.YtkacjnifhmgeiaaGreatDoor
open Go.RowKit

/-- Is the node ahead of that place a text? -/
def pvT (l : List Nd) (k : Nat) : Bool := match k with | 0 => false | j + 1 => (l[j]?.map (fun d => decide (d.n = []))).getD false
theorem ckL_step (r : List Nm) (p : Bool) (d : Nd) (l : List Nd) : ckL r p (d :: l) = if ndE r d ≠ 0 then ndE r d else if p = true ∧ d.n = [] then 4 else if ckL (d.n :: r) false d.k ≠ 0 then ckL (d.n :: r) false d.k else ckL r (decide (d.n = [])) l := by
  cases d with
  | mk n a x k =>
    have hc : ckN r p (.mk n a x k) = if ndE r (.mk n a x k) ≠ 0 then ndE r (.mk n a x k) else if p = true ∧ n = [] then 4 else ckL (n :: r) false k := rfl
    have ho : ckL r p (.mk n a x k :: l) = if ckN r p (.mk n a x k) ≠ 0 then ckN r p (.mk n a x k) else ckL r (decide (n = [])) l := rfl
    rw [ho]
    show _ = if ndE r (.mk n a x k) ≠ 0 then ndE r (.mk n a x k) else if p = true ∧ n = [] then 4 else if ckL (n :: r) false k ≠ 0 then ckL (n :: r) false k else ckL r (decide (n = [])) l
    by_cases h1 : ndE r (.mk n a x k) = 0
    · rw [if_neg (fun h => h h1)] at hc
      rw [if_neg (show ¬ ndE r (.mk n a x k) ≠ 0 from fun h => h h1)]
      by_cases h2 : p = true ∧ n = []
      · rw [if_pos h2] at hc
        rw [if_pos h2, if_pos (by rw [hc]; decide), hc]
      · rw [if_neg h2] at hc
        rw [if_neg h2]
        by_cases h3 : ckL (n :: r) false k = 0
        · rw [if_neg (by rw [hc, h3]; simp), if_neg (fun h => h h3)]
        · rw [if_pos (by rw [hc]; exact h3), if_pos h3, hc]
    · rw [if_pos h1] at hc
      rw [if_pos (show ndE r (.mk n a x k) ≠ 0 from h1), if_pos (by rw [hc]; exact h1), hc]
theorem one_news {w : World} {g : Nat} {v : Value} (h : w.cell? ⟨g, 0, none⟩ = some v) : ∀ j u, [v][j]? = some u → w.cell? ((⟨g, 0, none⟩ : Addr).add j) = some u := by
  intro j u hj
  rw [addr_at, Nat.zero_add]
  cases j with
  | zero => simp only [List.getElem?_cons_zero, Option.some.injEq] at hj; subst hj; exact h
  | succ j => simp at hj
theorem own_baseT {w : World} {base base' : Nat} {e : TypeId} {size : Nat} {v : Value} {n : Nat} {xs : List Value} (h : w.ownsRow base e size v n xs) (hb : base' ≤ base) : w.ownsRow base' e size v n xs := ⟨h.1, h.2.imp id fun ⟨g, c, cur, h1, h2, h3⟩ => ⟨g, c, cur, h1, Nat.le_trans hb h2, h3⟩⟩
theorem own_sts' {w : World} {base : Nat} {v : Value} {l : List Nm} {n : Nat} (hn : n = l.length) (h : w.ownsRow base 9 1 v n (strV l)) : StS w v l := by subst hn; exact own_sts h
end Go.Proofs.YtkacjnifhmgeiaaGreatDoor

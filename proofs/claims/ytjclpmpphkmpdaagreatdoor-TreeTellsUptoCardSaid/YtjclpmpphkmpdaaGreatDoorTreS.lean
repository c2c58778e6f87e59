/- Trees: slices.Clone of texts; check of the program. -/
import Derived.Test.YtjclpmpphkmpdaaGreatDoorGrpJ
import Derived.Test.YtjclpmpphkmpdaaGreatDoorGrpK
import Derived.Test.YtjclpmpphkmpdaaGreatDoorTreR
import Derived.Deep.AppendLies
namespace Go.Proofs.YtjclpmpphkmpdaaGreatDoor
open Go.RowKit

theorem addr_at (g o j : Nat) : (⟨g, o, none⟩ : Addr).add j = ⟨g, o + j, none⟩ := by unfold Addr.add; split <;> simp_all
theorem strV_one (l : List Nm) : ∀ u ∈ strV l, u.oneCell' = true := by
  intro u hu
  obtain ⟨n, _, rfl⟩ := List.mem_map.1 hu
  rfl
theorem sts_news {w : World} {g o c : Nat} {l : List Nm} (h : StS w (.slice (some ⟨g, o, none⟩) l.length c) l) : ∀ j u, (strV l)[j]? = some u → w.cell? ((⟨g, o, none⟩ : Addr).add j) = some u := by
  intro j u hj
  obtain ⟨ao, cap, e, _, h⟩ := h
  cases e
  rw [addr_at]
  unfold strV at hj
  rw [List.getElem?_map] at hj
  cases e2 : l[j]? with
  | none => rw [e2] at hj; simp at hj
  | some n =>
    rw [e2] at hj
    obtain ⟨hjl, e3⟩ := List.getElem?_eq_some_iff.1 e2
    obtain ⟨g', o', e4, _, h3⟩ := h j hjl
    cases e4
    rw [h3, e3]
    simpa using hj
set_option maxHeartbeats 1000000 in
theorem cloneS_c (l : List Nm) (v : Value) (hl : l.length ≤ 100000000) (w : World) (hA : StS w v l) :
    Calls Tryz.prog 42 #[v] w fun e w' => ∃ v', e = .returned v' ∧ w'.ownsRow w.heap.size 9 1 v' l.length (strV l) ∧ Bl w w' := by
  obtain ⟨i0, hi, hz0, hz1, hz2⟩ := info_parts Tryz.infoStr
  have hA' := hA
  obtain ⟨ao, cap, rfl, hcap, hA⟩ := hA
  have hnil := fun (W : World) (a : Option Addr) (n c : Nat) => Lib.run_eql_slice_nil (P := Tryz.prog) W 48 9 a n c 0 0 Tryz.underlying48
  cases ao with
  | none =>
    have h0 : l = [] := by
      rcases l with _ | ⟨a, l⟩
      · rfl
      · obtain ⟨g, o, e, _⟩ := hA 0 (by simp); cases e
    subst h0
    clear hA hA'
    go_enter Tryz.func42, Tryz.ntmps42
    go_wp2
    go_ret
    exact ⟨_, rfl, World.ownsRow_nil _ _ _ _, Bl.refl _⟩
  | some a =>
    by_cases h0 : l = []
    · subst h0
      clear hA hA'
      go_enter Tryz.func42, Tryz.ntmps42
      go_wp2
      go_ret
      exact ⟨_, rfl, World.ownsRow_made (base := w.heap.size) (e := 9) (size := 1) w #[] 0 (Nat.le_refl _) (by decide) rfl, (Bl.refl _).alloc _⟩
    · have hpos := List.length_pos_iff.2 h0
      obtain ⟨g, o, e, _⟩ := hA 0 hpos
      cases e
      have HN := Lib.hid hA'
      clear hA hA' h0
      go_enter Tryz.func42, Tryz.ntmps42
      go_wp2_with (at_builtin; refine wpList_append_own _ rfl _ _ 48 rfl w.heap.size 9 i0 (.string ⟨#[]⟩) 1 16 Tryz.underlying48 hi hz0 hz1 hz2 rfl (by decide) (.slice (some ⟨w.heap.size, 0, none⟩) 0 0) 0 [] rfl (World.ownsRow_made (base := w.heap.size) (e := 9) (size := 1) w #[] 0 (Nat.le_refl _) (by decide) rfl) ⟨g, o, none⟩ l.length cap (strV l) rfl (by simp [strV]) (sts_news (HN.out.of_bl ((Bl.refl _).alloc _))) (strV_one l) (by unfold maxLen; omega) (by omega) (by simp) ?_)
      intro v' wz hown' hgrow _
      have hbz : Bl w wz := Below.trans ((Bl.refl w).alloc _) (bel_gr hgrow (fun j hj => by simp only [Value.ownBlock, Option.some.injEq] at hj; omega) (by simp))
      have HO := Lib.hid hown'
      obtain ⟨ao, c, rfl, -⟩ := own_shp hown'
      clear hgrow hown'
      go_wp2
      go_ret
      exact ⟨_, rfl, by have := HO.out; simpa using this, hbz⟩
end Go.Proofs.YtjclpmpphkmpdaaGreatDoor

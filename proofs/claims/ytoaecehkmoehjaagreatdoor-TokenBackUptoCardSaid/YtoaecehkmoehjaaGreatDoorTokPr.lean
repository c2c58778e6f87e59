/- Tokens: Print of the program; what must be in any case. -/
import Derived.Test.YtoaecehkmoehjaaGreatDoorTokBy
import Derived.Test.YtoaecehkmoehjaaGreatDoorTokV
import Derived.Test.YtoaecehkmoehjaaGreatDoorEscK
import Derived.Test.YtoaecehkmoehjaaGreatDoorTokLaw
namespace Go.Proofs.YtoaecehkmoehjaaGreatDoor
open Go.RowKit

theorem tkEF_all (l : List Tok) : ∀ k : Int, tkEF k l = 0 → ∀ t ∈ l, tkE t = 0 := by
  induction l with
  | nil => intro k h t ht; cases ht
  | cons a l ih =>
    intro k h t ht
    rw [tkEF_cons] at h
    split at h
    · contradiction
    · rename_i h0
      split at h
      · cases h
      · rcases List.mem_cons.1 ht with rfl | ht
        · exact Classical.not_not.1 h0
        · exact ih _ h t ht
theorem ckE_kinds {l : List Tok} (h : ckE l = 0) : ∀ t ∈ l, t.1 = 1 ∨ t.1 = 2 ∨ t.1 = 3 := by
  intro t ht
  have h1 : tkEF 0 l = 0 := by unfold ckE at h; split at h; · cases h
                               · exact h
  rcases tkE_cases (tkEF_all l 0 h1 t ht) with ⟨x, _, rfl⟩ | ⟨n, al, _, _, rfl⟩ | ⟨n, _, rfl⟩ <;> simp
theorem ckE_len {l : List Tok} (h : ckE l = 0) : l.length ≤ 3000 := by
  unfold ckE at h; split at h
  · cases h
  · omega
set_option maxRecDepth 100000 in
set_option maxHeartbeats 1000000 in
theorem print_c (l : List Tok) (v : Value) (hS : Sm l) (hz : ckE l = 0 → szT l ≤ 1099511627776) (w : World) (hA : TkS w v l) :
    Calls Tryz.prog 8 #[v] w fun e w' => e = .returned (.tuple #[.string ⟨(if ckE l = 0 then tksW l else []).toArray⟩, .int .i64 (ckE l)]) ∧ Bl w w' := by
  have CC := Lib.hid (check_c l v hS w hA)
  by_cases h : ckE l = 0
  · have BC := Lib.hid (fun W (hb : Bl w W) => bytes_c l v (hz h) (by have := ckE_len h; omega) (ckE_kinds h) W (hA.of_bl hb))
    rw [show (if ckE l = 0 then tksW l else []) = tksW l by rw [if_pos h], h]
    rw [h] at CC
    clear h hz
    go_enter Tryz.func8, Tryz.ntmps8
    go_wp2_with (first | (go_at_call 14; (with_reducible refine CC.out.mono ?_); rintro e w1 ⟨rfl, hb1⟩) | (go_at_call 19; (with_reducible refine (BC.out _ hb1).mono ?_); rintro e w2 ⟨rfl, hb2⟩))
    go_ret2
    exact ⟨rfl, hb1.trans hb2⟩
  · have h' : (ckE l != 0) = true := by simpa using h
    rw [show (if ckE l = 0 then tksW l else []) = [] by rw [if_neg h]]
    clear h hz
    go_enter Tryz.func8, Tryz.ntmps8
    go_wp2_with (go_at_call 14; (with_reducible refine CC.out.mono ?_); rintro e w1 ⟨rfl, hb1⟩)
    go_ret2
    exact ⟨rfl, hb1⟩
def tagsL : List Tok := [(2, [97], [([104, 114, 101, 102], [120, 34, 121])], []), (1, [], [], [49, 32, 60, 32, 50]), (3, [97], [], [])]
set_option maxRecDepth 100000 in
set_option maxHeartbeats 1000000 in
theorem tags_c (w : World) :
    Calls Tryz.prog 33 #[] w fun e w' => ∃ v, e = .returned v ∧ TkS w' v tagsL ∧ Bl w w' := by
  go_enter Tryz.func33, Tryz.ntmps33
  go_wp2
  go_ret
  refine ⟨_, rfl, ⟨some ⟨w.heap.size + 1, 0, none⟩, 3, rfl, ?_⟩, ((Bl.refl w).alloc _).alloc _⟩
  intro i hi
  rcases (show i = 0 ∨ i = 1 ∨ i = 2 by simp [tagsL] at hi; omega) with rfl | rfl | rfl
  · refine ⟨w.heap.size + 1, 0, .slice (some ⟨w.heap.size, 0, none⟩) 1 1, rfl, by simp, by simp [tagsL], by simp [tagsL], by simp [tagsL], by simp [tagsL], ⟨some ⟨w.heap.size, 0, none⟩, 1, rfl, ?_⟩, ⟨_, _, _, rfl, Nat.le_refl _⟩⟩
    intro j hj
    rcases (show j = 0 by simp [tagsL] at hj; omega) with rfl
    exact ⟨w.heap.size, 0, rfl, by simp; omega, by simp [tagsL], by simp [tagsL]⟩
  · exact ⟨w.heap.size + 1, 0, .slice none 0 0, rfl, by simp, by simp [tagsL], by simp [tagsL], by simp [tagsL], by simp [tagsL], ⟨none, 0, rfl, fun j hj => absurd hj (by simp [tagsL])⟩, ⟨_, _, _, rfl, Nat.le_refl _⟩⟩
  · exact ⟨w.heap.size + 1, 0, .slice none 0 0, rfl, by simp, by simp [tagsL], by simp [tagsL], by simp [tagsL], by simp [tagsL], ⟨none, 0, rfl, fun j hj => absurd hj (by simp [tagsL])⟩, ⟨_, _, _, rfl, Nat.le_refl _⟩⟩
end Go.Proofs.YtoaecehkmoehjaaGreatDoor

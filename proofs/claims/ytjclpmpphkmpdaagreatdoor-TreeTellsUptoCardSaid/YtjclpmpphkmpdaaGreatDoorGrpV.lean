/- escape.Take, Strict; what must be in any case; signs that are put are taken as they were. · Tokens: Print of the program; what must be in any case. · Tokens: what must be in any case. -/
import Derived.Test.YtjclpmpphkmpdaaGreatDoorGrpF
import Derived.Test.YtjclpmpphkmpdaaGreatDoorTokBy
import Derived.Test.YtjclpmpphkmpdaaGreatDoorGrpK
import Derived.Test.YtjclpmpphkmpdaaGreatDoorGrpT
namespace Go.Proofs.YtjclpmpphkmpdaaGreatDoor
open Go.RowKit

/-- Strict: its text and its errno. -/
def strT (l : List UInt8) : List UInt8 := if 3000 < l.length then [] else if (Tk l).2 then (Tk l).1 else []
def strE (l : List UInt8) : Int := if 3000 < l.length then 2 else if (Tk l).2 then 0 else 1
theorem bg1 : short [60, 97, 32, 38, 32, 39, 98, 39, 62] (PutL [60, 97, 32, 38, 32, 39, 98, 39, 62]) = [38, 108, 116, 59, 97, 32, 38, 97, 109, 112, 59, 32, 39, 98, 39, 38, 103, 116, 59] ∧ tooL [60, 97, 32, 38, 32, 39, 98, 39, 62] = 0 := by decide +kernel
theorem bg2 : short [38, 108, 116, 59, 38, 35, 54, 53, 59, 38, 35, 120, 50, 48, 97, 67, 59, 38, 97, 109, 112, 59, 38, 110, 111, 59, 38, 35, 48, 59] (Tk [38, 108, 116, 59, 38, 35, 54, 53, 59, 38, 35, 120, 50, 48, 97, 67, 59, 38, 97, 109, 112, 59, 38, 110, 111, 59, 38, 35, 48, 59]).1 = [60, 65, 226, 130, 172, 38, 38, 110, 111, 59, 239, 191, 189] ∧ tooL [38, 108, 116, 59, 38, 35, 54, 53, 59, 38, 35, 120, 50, 48, 97, 67, 59, 38, 97, 109, 112, 59, 38, 110, 111, 59, 38, 35, 48, 59] = 0 := by decide +kernel
theorem bg3 : strE [38, 110, 111, 59] = 1 := by decide +kernel
theorem bg4 : strT [38, 97, 112, 111, 115, 59] = [39] ∧ strE [38, 97, 112, 111, 115, 59] = 0 := by decide +kernel
end Go.Proofs.YtjclpmpphkmpdaaGreatDoor

namespace Go.Proofs.YtjclpmpphkmpdaaGreatDoor
open Go.RowKit

theorem tkEF_all (l : List Tok) : ∀ k : Int, tkEF k l = 0 → ∀ t ∈ l, tkE t = 0 := by
  induction l with
  | nil => intro k h t ht; cases ht
  | cons a l ih =>
    intro k h t ht
    rw [tkEF_cons] at h
    split at h
    · contradiction
    · rename_i h0
      split at h
      · cases h
      · rcases List.mem_cons.1 ht with rfl | ht
        · exact Classical.not_not.1 h0
        · exact ih _ h t ht
theorem ckE_kinds {l : List Tok} (h : ckE l = 0) : ∀ t ∈ l, t.1 = 1 ∨ t.1 = 2 ∨ t.1 = 3 := by
  intro t ht
  have h1 : tkEF 0 l = 0 := by unfold ckE at h; split at h; · cases h
                               · exact h
  rcases tkE_cases (tkEF_all l 0 h1 t ht) with ⟨x, _, rfl⟩ | ⟨n, al, _, _, rfl⟩ | ⟨n, _, rfl⟩ <;> simp
theorem ckE_len {l : List Tok} (h : ckE l = 0) : l.length ≤ 3000 := by
  unfold ckE at h; split at h
  · cases h
  · omega
set_option maxRecDepth 100000 in
set_option maxHeartbeats 1000000 in
theorem print_c (l : List Tok) (v : Value) (hS : Sm l) (hz : ckE l = 0 → szT l ≤ 1099511627776) (w : World) (hA : TkS w v l) :
    Calls Tryz.prog 29 #[v] w fun e w' => e = .returned (.tuple #[.string ⟨(if ckE l = 0 then tksW l else []).toArray⟩, .int .i64 (ckE l)]) ∧ Bl w w' := by
  have CC := Lib.hid (check_c l v hS w hA)
  by_cases h : ckE l = 0
  · have BC := Lib.hid (fun W (hb : Bl w W) => bytes_c l v (hz h) (by have := ckE_len h; omega) (ckE_kinds h) W (hA.of_bl hb))
    rw [show (if ckE l = 0 then tksW l else []) = tksW l by rw [if_pos h], h]
    rw [h] at CC
    clear h hz
    go_enter Tryz.func29, Tryz.ntmps29
    go_wp2_with (first | (go_at_call 15; (with_reducible refine CC.out.mono ?_); rintro e w1 ⟨rfl, hb1⟩) | (go_at_call 40; (with_reducible refine (BC.out _ hb1).mono ?_); rintro e w2 ⟨rfl, hb2⟩))
    go_ret2
    exact ⟨rfl, hb1.trans hb2⟩
  · have h' : (ckE l != 0) = true := by simpa using h
    rw [show (if ckE l = 0 then tksW l else []) = [] by rw [if_neg h]]
    clear h hz
    go_enter Tryz.func29, Tryz.ntmps29
    go_wp2_with (go_at_call 15; (with_reducible refine CC.out.mono ?_); rintro e w1 ⟨rfl, hb1⟩)
    go_ret2
    exact ⟨rfl, hb1⟩
def tagsL : List Tok := [(2, [97], [([104, 114, 101, 102], [120, 34, 121])], []), (1, [], [], [49, 32, 60, 32, 50]), (3, [97], [], [])]
set_option maxRecDepth 100000 in
set_option maxHeartbeats 1000000 in
theorem tags_c (w : World) :
    Calls Tryz.prog 30 #[] w fun e w' => ∃ v, e = .returned v ∧ TkS w' v tagsL ∧ Bl w w' := by
  go_enter Tryz.func30, Tryz.ntmps30
  go_wp2
  go_ret
  refine ⟨_, rfl, ⟨some ⟨w.heap.size + 1, 0, none⟩, 3, rfl, ?_⟩, ((Bl.refl w).alloc _).alloc _⟩
  intro i hi
  rcases (show i = 0 ∨ i = 1 ∨ i = 2 by simp [tagsL] at hi; omega) with rfl | rfl | rfl
  · refine ⟨w.heap.size + 1, 0, .slice (some ⟨w.heap.size, 0, none⟩) 1 1, rfl, by simp, by simp [tagsL], by simp [tagsL], by simp [], by simp [tagsL], ⟨some ⟨w.heap.size, 0, none⟩, 1, rfl, ?_⟩, ⟨_, _, _, rfl, Nat.le_refl _⟩⟩
    intro j hj
    rcases (show j = 0 by simp [tagsL] at hj; omega) with rfl
    exact ⟨w.heap.size, 0, rfl, by simp; omega, by simp [tagsL], by simp [tagsL]⟩
  · exact ⟨w.heap.size + 1, 0, .slice none 0 0, rfl, by simp, by simp [tagsL], by simp [tagsL], by simp [], by simp [tagsL], ⟨none, 0, rfl, fun j hj => absurd hj (by simp [tagsL])⟩, ⟨_, _, _, rfl, Nat.le_refl _⟩⟩
  · exact ⟨w.heap.size + 1, 0, .slice none 0 0, rfl, by simp, by simp [tagsL], by simp [tagsL], by simp [], by simp [tagsL], ⟨none, 0, rfl, fun j hj => absurd hj (by simp [tagsL])⟩, ⟨_, _, _, rfl, Nat.le_refl _⟩⟩
end Go.Proofs.YtjclpmpphkmpdaaGreatDoor

namespace Go.Proofs.YtjclpmpphkmpdaaGreatDoor
open Go.RowKit

def rd1 : List UInt8 := [60, 65, 32, 104, 114, 101, 102, 61, 39, 120, 38, 113, 117, 111, 116, 59, 121, 39, 32, 104, 114, 101, 102, 61, 122, 62, 49, 32, 60, 33, 45, 45, 32, 99, 32, 45, 45, 62, 38, 108, 116, 59, 32, 50, 60, 47, 97, 32, 32, 62]
theorem tb1 : rdT rd1 = tagsL ∧ rdE rd1 = 0 := by decide +kernel
theorem tb2 : rdT [97, 60, 98] = [(1, [], [], [97, 60, 98])] ∧ rdE [97, 60, 98] = 0 := by decide +kernel
theorem tb3 : ckE tagsL = 0 ∧ tksW tagsL = [60, 97, 32, 104, 114, 101, 102, 61, 34, 120, 38, 113, 117, 111, 116, 59, 121, 34, 62, 49, 32, 38, 108, 116, 59, 32, 50, 60, 47, 97, 62] := by decide +kernel
theorem tb4 : Sm tagsL := by
  intro t ht
  simp only [tagsL, List.mem_cons, List.not_mem_nil, or_false] at ht
  rcases ht with rfl | rfl | rfl <;> simp
theorem tb5 : szT tagsL ≤ 1099511627776 := by decide +kernel
/-- A text alone. -/
theorem TkS_text (W : World) (x : List UInt8) : TkS (W.alloc (.cells #[.int .i64 1, .string ⟨#[]⟩, .slice none 0 0, .string ⟨x.toArray⟩] 41)) (.slice (some ⟨W.heap.size, 0, none⟩) 1 1) [(1, [], [], x)] := by
  refine ⟨some ⟨W.heap.size, 0, none⟩, 1, rfl, ?_⟩
  intro i hi
  rcases (show i = 0 by simp at hi; omega) with rfl
  exact ⟨W.heap.size, 0, .slice none 0 0, rfl, by simp, by simp, by simp, by simp, by simp, ⟨none, 0, rfl, fun j hj => absurd hj (by simp)⟩, ⟨_, _, _, rfl, Nat.le_refl _⟩⟩
theorem same_self (l : List Tok) (hl : l.length ≤ 1099511627776) (ha : ∀ t ∈ l, t.2.2.1.length ≤ 1099511627776) (va vb : Value) (w : World) (hA : TkS w va l) (hB : TkS w vb l) :
    Calls Tryz.prog 14 #[va, vb] w fun e w' => e = .returned (.bool true) ∧ Qt w w' :=
  (sameTokens_c l l va vb hl ha w hA hB).mono fun e w' ⟨h, q⟩ => ⟨by rw [h]; simp, q⟩
theorem bgR1 (W : World) (h1 : ES W) (h2 : ML W) :
    Calls Tryz.prog 26 #[.string ⟨#[60, 65, 32, 104, 114, 101, 102, 61, 39, 120, 38, 113, 117, 111, 116, 59, 121, 39, 32, 104, 114, 101, 102, 61, 122, 62, 49, 32, 60, 33, 45, 45, 32, 99, 32, 45, 45, 62, 38, 108, 116, 59, 32, 50, 60, 47, 97, 32, 32, 62]⟩] W fun e w' => ∃ v, e = .returned (.tuple #[v, .int .i64 0]) ∧ TkS w' v tagsL ∧ Bl W w' := by
  have r := read_c rd1 W h1 h2
  rw [tb1.1, tb1.2] at r
  exact r
theorem bgR2 (W : World) (h1 : ES W) (h2 : ML W) :
    Calls Tryz.prog 26 #[.string ⟨#[97, 60, 98]⟩] W fun e w' => ∃ v, e = .returned (.tuple #[v, .int .i64 0]) ∧ TkS w' v [(1, [], [], [97, 60, 98])] ∧ Bl W w' := by
  have r := read_c [97, 60, 98] W h1 h2
  rw [tb2.1, tb2.2] at r
  exact r
theorem bgP (v : Value) (W : World) (h : TkS W v tagsL) :
    Calls Tryz.prog 29 #[v] W fun e w' => e = .returned (.tuple #[.string ⟨#[60, 97, 32, 104, 114, 101, 102, 61, 34, 120, 38, 113, 117, 111, 116, 59, 121, 34, 62, 49, 32, 38, 108, 116, 59, 32, 50, 60, 47, 97, 62]⟩, .int .i64 0]) ∧ Bl W w' := by
  have r := print_c tagsL v tb4 (fun _ => tb5) W h
  rw [if_pos tb3.1, tb3.1, tb3.2] at r
  exact r
theorem bgC (v : Value) (W : World) (h : TkS W v tagsL) :
    Calls Tryz.prog 15 #[v] W fun e w' => e = .returned (.int .i64 0) ∧ Bl W w' := by
  have r := check_c tagsL v tb4 W h
  rw [tb3.1] at r
  exact r
theorem bgS1 (va vb : Value) (W : World) (h1 : TkS W va tagsL) (h2 : TkS W vb tagsL) :
    Calls Tryz.prog 14 #[va, vb] W fun e w' => e = .returned (.bool true) ∧ Qt W w' :=
  same_self tagsL (by decide +kernel) (by decide +kernel) va vb W h1 h2
theorem TkS_text' (W : World) : TkS (W.alloc (.cells #[.int .i64 1, .string ⟨#[]⟩, .slice none 0 0, .string ⟨#[97, 60, 98]⟩] 41)) (.slice (some ⟨W.heap.size, 0, none⟩) 1 1) [(1, [], [], [97, 60, 98])] := TkS_text W [97, 60, 98]
theorem bgS2 (va vb : Value) (W : World) (h1 : TkS W va [(1, [], [], [97, 60, 98])]) (h2 : TkS W vb [(1, [], [], [97, 60, 98])]) :
    Calls Tryz.prog 14 #[va, vb] W fun e w' => e = .returned (.bool true) ∧ Qt W w' :=
  same_self _ (by decide +kernel) (by decide +kernel) va vb W h1 h2
set_option maxRecDepth 100000 in
set_option maxHeartbeats 1000000 in
theorem tokenBegun_c (w : World) (hE : ES w) (hM : ML w) :
    Calls Tryz.prog 11 #[] w fun e w' => e = .returned (.bool true) ∧ Bl w w' := by
  go_enter Tryz.func11, Tryz.ntmps11
  go_wp2_with (first
    | (go_at_call 26; (with_reducible refine (bgR1 _ hE hM).mono ?_); rintro e w1 ⟨v1, rfl, hT1, hb1⟩)
    | (go_at_call 30; (with_reducible refine (tags_c w1).mono ?_); rintro e w2 ⟨v2, rfl, hT2, hb2⟩; have hb12 := hb1.trans hb2)
    | (go_at_call 29; (with_reducible refine (bgP _ _ hT2).mono ?_); rintro e w3 ⟨rfl, hb3⟩; have hb13 := hb12.trans hb3)
    | (go_at_call 26; (with_reducible refine (bgR2 _ (hE.of_bl hb13) (hM.of_bl hb13)).mono ?_); rintro e w4 ⟨v4, rfl, hT4, hb4⟩; have hb14 := hb13.trans hb4)
    | (go_at_call 30; (with_reducible refine (tags_c w4).mono ?_); rintro e w5 ⟨v5, rfl, hT5, hb5⟩; have hb15 := hb14.trans hb5)
    | (go_at_call 15; (with_reducible refine (bgC _ _ hT5).mono ?_); rintro e w6 ⟨rfl, hb6⟩; have hb16 := hb15.trans hb6)
    | (go_at_call 30; (with_reducible refine (tags_c w6).mono ?_); rintro e w7 ⟨v7, rfl, hT7, hb7⟩; have hb17 := hb16.trans hb7; have hT17 := hT1.of_bl ((((((hb2.trans hb3).trans hb4).trans hb5).trans hb6).trans hb7)))
    | (go_at_call 14; (with_reducible refine (bgS1 _ _ _ hT17 hT7).mono ?_); rintro e w8 ⟨rfl, hb8⟩; have hb18 := hb17.trans hb8.bl; have hT18 := hT4.of_bl (((hb5.trans hb6).trans hb7).trans hb8.bl))
    | (go_at_call 14; (with_reducible refine (bgS2 _ _ _ (hT18.of_bl ((Bl.refl _).alloc _)) (TkS_text' _)).mono ?_); rintro e w9 ⟨rfl, hb9⟩))
  go_ret
  exact ⟨rfl, (hb18.alloc _).trans hb9.bl⟩
end Go.Proofs.YtjclpmpphkmpdaaGreatDoor

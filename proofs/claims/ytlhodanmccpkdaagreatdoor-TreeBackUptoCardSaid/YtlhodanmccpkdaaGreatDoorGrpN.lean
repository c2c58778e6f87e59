/- Tokens: how much what is read holds. · escape.Take, Strict; what must be in any case; signs that are put are taken as they were. · Tokens: Print of the program; what must be in any case. · Tokens: what must be in any case. -/
import Derived.Test.YtlhodanmccpkdaaGreatDoorGrpL
import Derived.Test.YtlhodanmccpkdaaGreatDoorTokBy
import Derived.Test.YtlhodanmccpkdaaGreatDoorGrpD
import Derived.Test.YtlhodanmccpkdaaGreatDoorTokV
namespace Go.Proofs.YtlhodanmccpkdaaGreatDoor

def smA (N : Nat) (a : Atr) : Prop := a.1.length ≤ N ∧ a.2.length ≤ 4 * N
def smT (N : Nat) (t : Tok) : Prop := t.2.1.length ≤ N ∧ t.2.2.1.length ≤ N ∧ (∀ a ∈ t.2.2.1, smA N a) ∧ t.2.2.2.length ≤ 4 * N
theorem tw_len {p : UInt8 → Bool} (l : List UInt8) : (l.takeWhile p).length ≤ l.length := (List.takeWhile_prefix p).length_le
theorem oneAt_small (c : UInt8) (r : List UInt8) (a : Atr) (u : List UInt8) (h : oneAt c r = some (a, u)) : smA (r.length + 1) a := by
  have h1 := tw_len (p := nch) r
  have h2 := dw_len (p := nch) r
  have h3 := dw_len (p := wht) (r.dropWhile nch)
  unfold oneAt at h
  split at h
  · simp only [Option.some.injEq, Prod.mk.injEq] at h
    obtain ⟨rfl, _⟩ := h
    simp [smA, fold_len]; omega
  · rename_i d s e
    rw [e] at h3
    simp only [List.length_cons] at h3
    split at h
    · split at h
      · cases h
      · rename_i v w e2
        simp only [Option.some.injEq, Prod.mk.injEq] at h
        obtain ⟨rfl, _⟩ := h
        have h4 := (valOf_len _ _ _ e2).2
        have h5 := Tk_len _ v (Nat.le_refl _)
        simp only [smA, fold_len, List.length_cons]
        omega
    · simp only [Option.some.injEq, Prod.mk.injEq] at h
      obtain ⟨rfl, _⟩ := h
      simp [smA, fold_len]; omega
theorem addA_small (N : Nat) (out : List Atr) (a : Atr) (h : ∀ x ∈ out, smA N x) (ha : smA N a) : (∀ x ∈ addA out a, smA N x) ∧ (addA out a).length ≤ out.length + 1 := by
  unfold addA
  split
  · refine ⟨fun x hx => ?_, by simp⟩
    rcases List.mem_append.1 hx with hx | hx
    · exact h x hx
    · rw [List.mem_singleton.1 hx]; exact ha
  · exact ⟨h, by omega⟩
theorem smA_mono {N M : Nat} (h : N ≤ M) {a : Atr} (ha : smA N a) : smA M a := ⟨by have := ha.1; omega, by have := ha.2; omega⟩
theorem atF_small (N : Nat) (k : Nat) : ∀ (t : List UInt8) (out l : List Atr) (r : List UInt8), t.length ≤ N → (∀ x ∈ out, smA N x) → atF k t out = some (l, r) → (∀ x ∈ l, smA N x) ∧ l.length ≤ out.length + t.length := by
  induction k with
  | zero => intro t out l r _ _ h; cases h
  | succ k ih =>
    intro t out l r ht ho h
    have h1 := dw_len (p := wsl) t
    unfold atF at h
    split at h
    · cases h
    · rename_i c s e
      rw [e] at h1
      simp only [List.length_cons] at h1
      split at h
      · simp only [Option.some.injEq, Prod.mk.injEq] at h
        obtain ⟨rfl, _⟩ := h
        exact ⟨ho, by omega⟩
      · split at h
        · cases h
        · rename_i a u e2
          have h2 := oneAt_len _ _ _ _ e2
          have h3 := smA_mono (show s.length + 1 ≤ N by omega) (oneAt_small _ _ _ _ e2)
          have h4 := addA_small N out a ho h3
          have h5 := ih u (addA out a) l r (by omega) h4.1 h
          exact ⟨h5.1, by have := h5.2; have := h4.2; omega⟩
theorem tagP_small (r u : List UInt8) (t : Tok) (h : tagP r = some (some (some t, u))) : smT r.length t := by
  unfold tagP at h
  split at h
  · cases h
  · rename_i c s
    split at h
    · cases e : atP ((c :: s).dropWhile tch) [] with
      | none => rw [e] at h; simp at h
      | some x =>
        rw [e] at h
        simp only [Option.map_some, Option.some.injEq, Prod.mk.injEq] at h
        obtain ⟨rfl, _⟩ := h
        have h1 := dw_len (p := tch) (c :: s)
        have h2 := tw_len (p := tch) (c :: s)
        have h3 := atF_small (c :: s).length _ _ [] x.1 x.2 h1 (by simp) e
        refine ⟨by rw [fold_len]; exact h2, ?_, h3.1, by simp⟩
        have := h3.2
        simp only [List.length_nil] at this
        show x.1.length ≤ _
        omega
    split at h
    · cases e : cutS [62] (s.dropWhile tch) with
      | none => rw [e] at h; simp at h
      | some x =>
        rw [e] at h
        simp only [Option.map_some, Option.some.injEq, Prod.mk.injEq] at h
        obtain ⟨rfl, _⟩ := h
        have h2 := tw_len (p := tch) s
        exact ⟨by rw [fold_len]; simp only [List.length_cons]; omega, by simp, by simp, by simp⟩
    split at h
    · cases e : cutS [45, 45, 62] s with
      | none => rw [e] at h; simp at h
      | some x => rw [e] at h; simp at h
    split at h
    · cases e : cutS [62] (c :: s) with
      | none => rw [e] at h; simp at h
      | some x => rw [e] at h; simp at h
    · cases h
theorem smT_mono {N M : Nat} (h : N ≤ M) {t : Tok} (ha : smT N t) : smT M t :=
  ⟨by have := ha.1; omega, by have := ha.2.1; omega, fun a h2 => smA_mono h (ha.2.2.1 a h2), by have := ha.2.2.2; omega⟩
theorem flsh_small (N : Nat) (x : List UInt8) (l : List Tok) (hx : x.length ≤ N) (h : ∀ t ∈ l, smT N t) : ∀ t ∈ flsh x l, smT N t := by
  unfold flsh
  split
  · exact h
  · intro t ht
    rcases List.mem_append.1 ht with ht | ht
    · exact h t ht
    · rw [List.mem_singleton.1 ht]
      have := Tk_len _ x (Nat.le_refl _)
      exact ⟨by simp, by simp, by simp, by simp only []; omega⟩
theorem tkF_small (N : Nat) (k : Nat) : ∀ (s text : List UInt8) (out : List Tok), s.length + text.length ≤ N → (∀ t ∈ out, smT N t) → ∀ t ∈ tkF k s text out, smT N t := by
  induction k with
  | zero => intro s text out h ho; exact flsh_small N text out (by omega) ho
  | succ k ih =>
    intro s text out h ho
    cases s with
    | nil => exact flsh_small N text out (by omega) ho
    | cons c r =>
      simp only [List.length_cons] at h
      unfold tkF
      split
      · split
        · exact ih r _ out (by simp; omega) ho
        · exact flsh_small N _ out (by simp; omega) ho
        · rename_i u e
          have := tagP_len _ _ _ e
          exact ih u text out (by omega) ho
        · rename_i t u e
          have h1 := tagP_len _ _ _ e
          have h2 := smT_mono (show r.length ≤ N by omega) (tagP_small _ _ _ e)
          split
          · refine ih u [] _ (by simp; omega) ?_
            intro x hx
            rcases List.mem_append.1 hx with hx | hx
            · exact flsh_small N text out (by omega) ho x hx
            · rw [List.mem_singleton.1 hx]; exact h2
          · exact ih u text out (by omega) ho
      · exact ih r _ out (by simp; omega) ho
theorem TokL_small (s : List UInt8) (h : s.length ≤ 3000) : ∀ t ∈ TokL s, smT 3000 t := tkF_small 3000 _ s [] [] (by simpa using h) (by simp)
theorem szA_small (N : Nat) (l : List Atr) (h : ∀ a ∈ l, smA N a) : szA l ≤ l.length * (25 * N + 4) := by
  induction l with
  | nil => simp [szA]
  | cons a l ih =>
    have h1 := ih (fun x hx => h x (List.mem_cons_of_mem _ hx))
    have h2 := h a List.mem_cons_self
    simp only [szA, List.map_cons, List.sum_cons, List.length_cons, Nat.add_mul] at *
    have h3 := h2.1
    have h4 := h2.2
    omega
theorem szT_small (l : List Tok) (h : ∀ t ∈ l, smT 3000 t) : szT l ≤ l.length * 225100000 := by
  induction l with
  | nil => simp [szT]
  | cons t l ih =>
    have h1 := ih (fun x hx => h x (List.mem_cons_of_mem _ hx))
    obtain ⟨h2, h3, h4, h5⟩ := h t List.mem_cons_self
    have h6 := szA_small 3000 _ h4
    have h7 : t.2.2.1.length * (25 * 3000 + 4) ≤ 3000 * (25 * 3000 + 4) := Nat.mul_le_mul_right _ h3
    simp only [szT, List.map_cons, List.sum_cons, List.length_cons, Nat.add_mul] at *
    omega
theorem TokL_sz (s : List UInt8) (h : s.length ≤ 3000) : szT (TokL s) ≤ 1099511627776 := by
  have h1 := szT_small _ (TokL_small s h)
  have h2 := (TokL_right s).2
  have h3 : (TokL s).length * 225100000 ≤ 3000 * 225100000 := Nat.mul_le_mul_right _ (by omega)
  omega
end Go.Proofs.YtlhodanmccpkdaaGreatDoor

namespace Go.Proofs.YtlhodanmccpkdaaGreatDoor
open Go.RowKit

/-- Strict: its text and its errno. -/
def strT (l : List UInt8) : List UInt8 := if 3000 < l.length then [] else if (Tk l).2 then (Tk l).1 else []
def strE (l : List UInt8) : Int := if 3000 < l.length then 2 else if (Tk l).2 then 0 else 1
theorem bg1 : short [60, 97, 32, 38, 32, 39, 98, 39, 62] (PutL [60, 97, 32, 38, 32, 39, 98, 39, 62]) = [38, 108, 116, 59, 97, 32, 38, 97, 109, 112, 59, 32, 39, 98, 39, 38, 103, 116, 59] ∧ tooL [60, 97, 32, 38, 32, 39, 98, 39, 62] = 0 := by decide +kernel
theorem bg2 : short [38, 108, 116, 59, 38, 35, 54, 53, 59, 38, 35, 120, 50, 48, 97, 67, 59, 38, 97, 109, 112, 59, 38, 110, 111, 59, 38, 35, 48, 59] (Tk [38, 108, 116, 59, 38, 35, 54, 53, 59, 38, 35, 120, 50, 48, 97, 67, 59, 38, 97, 109, 112, 59, 38, 110, 111, 59, 38, 35, 48, 59]).1 = [60, 65, 226, 130, 172, 38, 38, 110, 111, 59, 239, 191, 189] ∧ tooL [38, 108, 116, 59, 38, 35, 54, 53, 59, 38, 35, 120, 50, 48, 97, 67, 59, 38, 97, 109, 112, 59, 38, 110, 111, 59, 38, 35, 48, 59] = 0 := by decide +kernel
theorem bg3 : strE [38, 110, 111, 59] = 1 := by decide +kernel
theorem bg4 : strT [38, 97, 112, 111, 115, 59] = [39] ∧ strE [38, 97, 112, 111, 115, 59] = 0 := by decide +kernel
end Go.Proofs.YtlhodanmccpkdaaGreatDoor

namespace Go.Proofs.YtlhodanmccpkdaaGreatDoor
open Go.RowKit

theorem tkEF_all (l : List Tok) : ∀ k : Int, tkEF k l = 0 → ∀ t ∈ l, tkE t = 0 := by
  induction l with
  | nil => intro k h t ht; cases ht
  | cons a l ih =>
    intro k h t ht
    rw [tkEF_cons] at h
    split at h
    · contradiction
    · rename_i h0
      split at h
      · cases h
      · rcases List.mem_cons.1 ht with rfl | ht
        · exact Classical.not_not.1 h0
        · exact ih _ h t ht
theorem ckE_kinds {l : List Tok} (h : ckE l = 0) : ∀ t ∈ l, t.1 = 1 ∨ t.1 = 2 ∨ t.1 = 3 := by
  intro t ht
  have h1 : tkEF 0 l = 0 := by unfold ckE at h; split at h; · cases h
                               · exact h
  rcases tkE_cases (tkEF_all l 0 h1 t ht) with ⟨x, _, rfl⟩ | ⟨n, al, _, _, rfl⟩ | ⟨n, _, rfl⟩ <;> simp
theorem ckE_len {l : List Tok} (h : ckE l = 0) : l.length ≤ 3000 := by
  unfold ckE at h; split at h
  · cases h
  · omega
set_option maxRecDepth 100000 in
set_option maxHeartbeats 1000000 in
theorem print_c (l : List Tok) (v : Value) (hS : Sm l) (hz : ckE l = 0 → szT l ≤ 1099511627776) (w : World) (hA : TkS w v l) :
    Calls Tryz.prog 18 #[v] w fun e w' => e = .returned (.tuple #[.string ⟨(if ckE l = 0 then tksW l else []).toArray⟩, .int .i64 (ckE l)]) ∧ Bl w w' := by
  have CC := Lib.hid (check_c l v hS w hA)
  by_cases h : ckE l = 0
  · have BC := Lib.hid (fun W (hb : Bl w W) => bytes_c l v (hz h) (by have := ckE_len h; omega) (ckE_kinds h) W (hA.of_bl hb))
    rw [show (if ckE l = 0 then tksW l else []) = tksW l by rw [if_pos h], h]
    rw [h] at CC
    clear h hz
    go_enter Tryz.func18, Tryz.ntmps18
    go_wp2_with (first | (go_at_call 12; (with_reducible refine CC.out.mono ?_); rintro e w1 ⟨rfl, hb1⟩) | (go_at_call 29; (with_reducible refine (BC.out _ hb1).mono ?_); rintro e w2 ⟨rfl, hb2⟩))
    go_ret2
    exact ⟨rfl, hb1.trans hb2⟩
  · have h' : (ckE l != 0) = true := by simpa using h
    rw [show (if ckE l = 0 then tksW l else []) = [] by rw [if_neg h]]
    clear h hz
    go_enter Tryz.func18, Tryz.ntmps18
    go_wp2_with (go_at_call 12; (with_reducible refine CC.out.mono ?_); rintro e w1 ⟨rfl, hb1⟩)
    go_ret2
    exact ⟨rfl, hb1⟩
def tagsL : List Tok := [(2, [97], [([104, 114, 101, 102], [120, 34, 121])], []), (1, [], [], [49, 32, 60, 32, 50]), (3, [97], [], [])]
set_option maxRecDepth 100000 in
set_option maxHeartbeats 1000000 in
theorem tags_c (w : World) :
    Calls Tryz.prog 19 #[] w fun e w' => ∃ v, e = .returned v ∧ TkS w' v tagsL ∧ Bl w w' := by
  go_enter Tryz.func19, Tryz.ntmps19
  go_wp2
  go_ret
  refine ⟨_, rfl, ⟨some ⟨w.heap.size + 1, 0, none⟩, 3, rfl, ?_⟩, ((Bl.refl w).alloc _).alloc _⟩
  intro i hi
  rcases (show i = 0 ∨ i = 1 ∨ i = 2 by simp [tagsL] at hi; omega) with rfl | rfl | rfl
  · refine ⟨w.heap.size + 1, 0, .slice (some ⟨w.heap.size, 0, none⟩) 1 1, rfl, by simp, by simp [tagsL], by simp [tagsL], by simp [], by simp [tagsL], ⟨some ⟨w.heap.size, 0, none⟩, 1, rfl, ?_⟩, ⟨_, _, _, rfl, Nat.le_refl _⟩⟩
    intro j hj
    rcases (show j = 0 by simp [tagsL] at hj; omega) with rfl
    exact ⟨w.heap.size, 0, rfl, by simp; omega, by simp [tagsL], by simp [tagsL]⟩
  · exact ⟨w.heap.size + 1, 0, .slice none 0 0, rfl, by simp, by simp [tagsL], by simp [tagsL], by simp [], by simp [tagsL], ⟨none, 0, rfl, fun j hj => absurd hj (by simp [tagsL])⟩, ⟨_, _, _, rfl, Nat.le_refl _⟩⟩
  · exact ⟨w.heap.size + 1, 0, .slice none 0 0, rfl, by simp, by simp [tagsL], by simp [tagsL], by simp [], by simp [tagsL], ⟨none, 0, rfl, fun j hj => absurd hj (by simp [tagsL])⟩, ⟨_, _, _, rfl, Nat.le_refl _⟩⟩
end Go.Proofs.YtlhodanmccpkdaaGreatDoor

namespace Go.Proofs.YtlhodanmccpkdaaGreatDoor
open Go.RowKit

def rd1 : List UInt8 := [60, 65, 32, 104, 114, 101, 102, 61, 39, 120, 38, 113, 117, 111, 116, 59, 121, 39, 32, 104, 114, 101, 102, 61, 122, 62, 49, 32, 60, 33, 45, 45, 32, 99, 32, 45, 45, 62, 38, 108, 116, 59, 32, 50, 60, 47, 97, 32, 32, 62]
theorem tb1 : rdT rd1 = tagsL ∧ rdE rd1 = 0 := by decide +kernel
theorem tb2 : rdT [97, 60, 98] = [(1, [], [], [97, 60, 98])] ∧ rdE [97, 60, 98] = 0 := by decide +kernel
theorem tb3 : ckE tagsL = 0 ∧ tksW tagsL = [60, 97, 32, 104, 114, 101, 102, 61, 34, 120, 38, 113, 117, 111, 116, 59, 121, 34, 62, 49, 32, 38, 108, 116, 59, 32, 50, 60, 47, 97, 62] := by decide +kernel
theorem tb4 : Sm tagsL := by
  intro t ht
  simp only [tagsL, List.mem_cons, List.not_mem_nil, or_false] at ht
  rcases ht with rfl | rfl | rfl <;> simp
theorem tb5 : szT tagsL ≤ 1099511627776 := by decide +kernel
/-- A text alone. -/
theorem TkS_text (W : World) (x : List UInt8) : TkS (W.alloc (.cells #[.int .i64 1, .string ⟨#[]⟩, .slice none 0 0, .string ⟨x.toArray⟩] 30)) (.slice (some ⟨W.heap.size, 0, none⟩) 1 1) [(1, [], [], x)] := by
  refine ⟨some ⟨W.heap.size, 0, none⟩, 1, rfl, ?_⟩
  intro i hi
  rcases (show i = 0 by simp at hi; omega) with rfl
  exact ⟨W.heap.size, 0, .slice none 0 0, rfl, by simp, by simp, by simp, by simp, by simp, ⟨none, 0, rfl, fun j hj => absurd hj (by simp)⟩, ⟨_, _, _, rfl, Nat.le_refl _⟩⟩
theorem same_self (l : List Tok) (hl : l.length ≤ 1099511627776) (ha : ∀ t ∈ l, t.2.2.1.length ≤ 1099511627776) (va vb : Value) (w : World) (hA : TkS w va l) (hB : TkS w vb l) :
    Calls Tryz.prog 20 #[va, vb] w fun e w' => e = .returned (.bool true) ∧ Qt w w' :=
  (sameTokens_c l l va vb hl ha w hA hB).mono fun e w' ⟨h, q⟩ => ⟨by rw [h]; simp, q⟩
theorem bgR1 (W : World) (h1 : ES W) (h2 : ML W) :
    Calls Tryz.prog 14 #[.string ⟨#[60, 65, 32, 104, 114, 101, 102, 61, 39, 120, 38, 113, 117, 111, 116, 59, 121, 39, 32, 104, 114, 101, 102, 61, 122, 62, 49, 32, 60, 33, 45, 45, 32, 99, 32, 45, 45, 62, 38, 108, 116, 59, 32, 50, 60, 47, 97, 32, 32, 62]⟩] W fun e w' => ∃ v, e = .returned (.tuple #[v, .int .i64 0]) ∧ TkS w' v tagsL ∧ Bl W w' := by
  have r := read_c rd1 W h1 h2
  rw [tb1.1, tb1.2] at r
  exact r
theorem bgR2 (W : World) (h1 : ES W) (h2 : ML W) :
    Calls Tryz.prog 14 #[.string ⟨#[97, 60, 98]⟩] W fun e w' => ∃ v, e = .returned (.tuple #[v, .int .i64 0]) ∧ TkS w' v [(1, [], [], [97, 60, 98])] ∧ Bl W w' := by
  have r := read_c [97, 60, 98] W h1 h2
  rw [tb2.1, tb2.2] at r
  exact r
theorem bgP (v : Value) (W : World) (h : TkS W v tagsL) :
    Calls Tryz.prog 18 #[v] W fun e w' => e = .returned (.tuple #[.string ⟨#[60, 97, 32, 104, 114, 101, 102, 61, 34, 120, 38, 113, 117, 111, 116, 59, 121, 34, 62, 49, 32, 38, 108, 116, 59, 32, 50, 60, 47, 97, 62]⟩, .int .i64 0]) ∧ Bl W w' := by
  have r := print_c tagsL v tb4 (fun _ => tb5) W h
  rw [if_pos tb3.1, tb3.1, tb3.2] at r
  exact r
theorem bgC (v : Value) (W : World) (h : TkS W v tagsL) :
    Calls Tryz.prog 12 #[v] W fun e w' => e = .returned (.int .i64 0) ∧ Bl W w' := by
  have r := check_c tagsL v tb4 W h
  rw [tb3.1] at r
  exact r
theorem bgS1 (va vb : Value) (W : World) (h1 : TkS W va tagsL) (h2 : TkS W vb tagsL) :
    Calls Tryz.prog 20 #[va, vb] W fun e w' => e = .returned (.bool true) ∧ Qt W w' :=
  same_self tagsL (by decide +kernel) (by decide +kernel) va vb W h1 h2
theorem TkS_text' (W : World) : TkS (W.alloc (.cells #[.int .i64 1, .string ⟨#[]⟩, .slice none 0 0, .string ⟨#[97, 60, 98]⟩] 30)) (.slice (some ⟨W.heap.size, 0, none⟩) 1 1) [(1, [], [], [97, 60, 98])] := TkS_text W [97, 60, 98]
theorem bgS2 (va vb : Value) (W : World) (h1 : TkS W va [(1, [], [], [97, 60, 98])]) (h2 : TkS W vb [(1, [], [], [97, 60, 98])]) :
    Calls Tryz.prog 20 #[va, vb] W fun e w' => e = .returned (.bool true) ∧ Qt W w' :=
  same_self _ (by decide +kernel) (by decide +kernel) va vb W h1 h2
set_option maxRecDepth 100000 in
set_option maxHeartbeats 1000000 in
theorem tokenBegun_c (w : World) (hE : ES w) (hM : ML w) :
    Calls Tryz.prog 9 #[] w fun e w' => e = .returned (.bool true) ∧ Bl w w' := by
  go_enter Tryz.func9, Tryz.ntmps9
  go_wp2_with (first
    | (go_at_call 14; (with_reducible refine (bgR1 _ hE hM).mono ?_); rintro e w1 ⟨v1, rfl, hT1, hb1⟩)
    | (go_at_call 19; (with_reducible refine (tags_c w1).mono ?_); rintro e w2 ⟨v2, rfl, hT2, hb2⟩; have hb12 := hb1.trans hb2)
    | (go_at_call 18; (with_reducible refine (bgP _ _ hT2).mono ?_); rintro e w3 ⟨rfl, hb3⟩; have hb13 := hb12.trans hb3)
    | (go_at_call 14; (with_reducible refine (bgR2 _ (hE.of_bl hb13) (hM.of_bl hb13)).mono ?_); rintro e w4 ⟨v4, rfl, hT4, hb4⟩; have hb14 := hb13.trans hb4)
    | (go_at_call 19; (with_reducible refine (tags_c w4).mono ?_); rintro e w5 ⟨v5, rfl, hT5, hb5⟩; have hb15 := hb14.trans hb5)
    | (go_at_call 12; (with_reducible refine (bgC _ _ hT5).mono ?_); rintro e w6 ⟨rfl, hb6⟩; have hb16 := hb15.trans hb6)
    | (go_at_call 19; (with_reducible refine (tags_c w6).mono ?_); rintro e w7 ⟨v7, rfl, hT7, hb7⟩; have hb17 := hb16.trans hb7; have hT17 := hT1.of_bl ((((((hb2.trans hb3).trans hb4).trans hb5).trans hb6).trans hb7)))
    | (go_at_call 20; (with_reducible refine (bgS1 _ _ _ hT17 hT7).mono ?_); rintro e w8 ⟨rfl, hb8⟩; have hb18 := hb17.trans hb8.bl; have hT18 := hT4.of_bl (((hb5.trans hb6).trans hb7).trans hb8.bl))
    | (go_at_call 20; (with_reducible refine (bgS2 _ _ _ (hT18.of_bl ((Bl.refl _).alloc _)) (TkS_text' _)).mono ?_); rintro e w9 ⟨rfl, hb9⟩))
  go_ret
  exact ⟨rfl, (hb18.alloc _).trans hb9.bl⟩
end Go.Proofs.YtlhodanmccpkdaaGreatDoor

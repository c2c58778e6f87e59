/- Tokens: how much what is read holds. -/
import Derived.Test.YtoaecehkmoehjaaGreatDoorGrpC
import Derived.Test.YtoaecehkmoehjaaGreatDoorTokBy
namespace Go.Proofs.YtoaecehkmoehjaaGreatDoor

def smA (N : Nat) (a : Atr) : Prop := a.1.length ≤ N ∧ a.2.length ≤ 4 * N
def smT (N : Nat) (t : Tok) : Prop := t.2.1.length ≤ N ∧ t.2.2.1.length ≤ N ∧ (∀ a ∈ t.2.2.1, smA N a) ∧ t.2.2.2.length ≤ 4 * N
theorem tw_len {p : UInt8 → Bool} (l : List UInt8) : (l.takeWhile p).length ≤ l.length := (List.takeWhile_prefix p).length_le
theorem oneAt_small (c : UInt8) (r : List UInt8) (a : Atr) (u : List UInt8) (h : oneAt c r = some (a, u)) : smA (r.length + 1) a := by
  have h1 := tw_len (p := nch) r
  have h2 := dw_len (p := nch) r
  have h3 := dw_len (p := wht) (r.dropWhile nch)
  unfold oneAt at h
  split at h
  · simp only [Option.some.injEq, Prod.mk.injEq] at h
    obtain ⟨rfl, _⟩ := h
    simp [smA, fold_len]; omega
  · rename_i d s e
    rw [e] at h3
    simp only [List.length_cons] at h3
    split at h
    · split at h
      · cases h
      · rename_i v w e2
        simp only [Option.some.injEq, Prod.mk.injEq] at h
        obtain ⟨rfl, _⟩ := h
        have h4 := (valOf_len _ _ _ e2).2
        have h5 := Tk_len _ v (Nat.le_refl _)
        simp only [smA, fold_len, List.length_cons]
        omega
    · simp only [Option.some.injEq, Prod.mk.injEq] at h
      obtain ⟨rfl, _⟩ := h
      simp [smA, fold_len]; omega
theorem addA_small (N : Nat) (out : List Atr) (a : Atr) (h : ∀ x ∈ out, smA N x) (ha : smA N a) : (∀ x ∈ addA out a, smA N x) ∧ (addA out a).length ≤ out.length + 1 := by
  unfold addA
  split
  · refine ⟨fun x hx => ?_, by simp⟩
    rcases List.mem_append.1 hx with hx | hx
    · exact h x hx
    · rw [List.mem_singleton.1 hx]; exact ha
  · exact ⟨h, by omega⟩
theorem smA_mono {N M : Nat} (h : N ≤ M) {a : Atr} (ha : smA N a) : smA M a := ⟨by have := ha.1; omega, by have := ha.2; omega⟩
theorem atF_small (N : Nat) (k : Nat) : ∀ (t : List UInt8) (out l : List Atr) (r : List UInt8), t.length ≤ N → (∀ x ∈ out, smA N x) → atF k t out = some (l, r) → (∀ x ∈ l, smA N x) ∧ l.length ≤ out.length + t.length := by
  induction k with
  | zero => intro t out l r _ _ h; cases h
  | succ k ih =>
    intro t out l r ht ho h
    have h1 := dw_len (p := wsl) t
    unfold atF at h
    split at h
    · cases h
    · rename_i c s e
      rw [e] at h1
      simp only [List.length_cons] at h1
      split at h
      · simp only [Option.some.injEq, Prod.mk.injEq] at h
        obtain ⟨rfl, _⟩ := h
        exact ⟨ho, by omega⟩
      · split at h
        · cases h
        · rename_i a u e2
          have h2 := oneAt_len _ _ _ _ e2
          have h3 := smA_mono (show s.length + 1 ≤ N by omega) (oneAt_small _ _ _ _ e2)
          have h4 := addA_small N out a ho h3
          have h5 := ih u (addA out a) l r (by omega) h4.1 h
          exact ⟨h5.1, by have := h5.2; have := h4.2; omega⟩
theorem tagP_small (r u : List UInt8) (t : Tok) (h : tagP r = some (some (some t, u))) : smT r.length t := by
  unfold tagP at h
  split at h
  · cases h
  · rename_i c s
    split at h
    · cases e : atP ((c :: s).dropWhile tch) [] with
      | none => rw [e] at h; simp at h
      | some x =>
        rw [e] at h
        simp only [Option.map_some, Option.some.injEq, Prod.mk.injEq] at h
        obtain ⟨rfl, _⟩ := h
        have h1 := dw_len (p := tch) (c :: s)
        have h2 := tw_len (p := tch) (c :: s)
        have h3 := atF_small (c :: s).length _ _ [] x.1 x.2 h1 (by simp) e
        refine ⟨by rw [fold_len]; exact h2, ?_, h3.1, by simp⟩
        have := h3.2
        simp only [List.length_nil] at this
        show x.1.length ≤ _
        omega
    split at h
    · cases e : cutS [62] (s.dropWhile tch) with
      | none => rw [e] at h; simp at h
      | some x =>
        rw [e] at h
        simp only [Option.map_some, Option.some.injEq, Prod.mk.injEq] at h
        obtain ⟨rfl, _⟩ := h
        have h2 := tw_len (p := tch) s
        exact ⟨by rw [fold_len]; simp only [List.length_cons]; omega, by simp, by simp, by simp⟩
    split at h
    · cases e : cutS [45, 45, 62] s with
      | none => rw [e] at h; simp at h
      | some x => rw [e] at h; simp at h
    split at h
    · cases e : cutS [62] (c :: s) with
      | none => rw [e] at h; simp at h
      | some x => rw [e] at h; simp at h
    · cases h
theorem smT_mono {N M : Nat} (h : N ≤ M) {t : Tok} (ha : smT N t) : smT M t :=
  ⟨by have := ha.1; omega, by have := ha.2.1; omega, fun a h2 => smA_mono h (ha.2.2.1 a h2), by have := ha.2.2.2; omega⟩
theorem flsh_small (N : Nat) (x : List UInt8) (l : List Tok) (hx : x.length ≤ N) (h : ∀ t ∈ l, smT N t) : ∀ t ∈ flsh x l, smT N t := by
  unfold flsh
  split
  · exact h
  · intro t ht
    rcases List.mem_append.1 ht with ht | ht
    · exact h t ht
    · rw [List.mem_singleton.1 ht]
      have := Tk_len _ x (Nat.le_refl _)
      exact ⟨by simp, by simp, by simp, by simp only []; omega⟩
theorem tkF_small (N : Nat) (k : Nat) : ∀ (s text : List UInt8) (out : List Tok), s.length + text.length ≤ N → (∀ t ∈ out, smT N t) → ∀ t ∈ tkF k s text out, smT N t := by
  induction k with
  | zero => intro s text out h ho; exact flsh_small N text out (by omega) ho
  | succ k ih =>
    intro s text out h ho
    cases s with
    | nil => exact flsh_small N text out (by omega) ho
    | cons c r =>
      simp only [List.length_cons] at h
      unfold tkF
      split
      · split
        · exact ih r _ out (by simp; omega) ho
        · exact flsh_small N _ out (by simp; omega) ho
        · rename_i u e
          have := tagP_len _ _ _ e
          exact ih u text out (by omega) ho
        · rename_i t u e
          have h1 := tagP_len _ _ _ e
          have h2 := smT_mono (show r.length ≤ N by omega) (tagP_small _ _ _ e)
          split
          · refine ih u [] _ (by simp; omega) ?_
            intro x hx
            rcases List.mem_append.1 hx with hx | hx
            · exact flsh_small N text out (by omega) ho x hx
            · rw [List.mem_singleton.1 hx]; exact h2
          · exact ih u text out (by omega) ho
      · exact ih r _ out (by simp; omega) ho
theorem TokL_small (s : List UInt8) (h : s.length ≤ 3000) : ∀ t ∈ TokL s, smT 3000 t := tkF_small 3000 _ s [] [] (by simpa using h) (by simp)
theorem szA_small (N : Nat) (l : List Atr) (h : ∀ a ∈ l, smA N a) : szA l ≤ l.length * (25 * N + 4) := by
  induction l with
  | nil => simp [szA]
  | cons a l ih =>
    have h1 := ih (fun x hx => h x (List.mem_cons_of_mem _ hx))
    have h2 := h a List.mem_cons_self
    simp only [szA, List.map_cons, List.sum_cons, List.length_cons, Nat.add_mul] at *
    have h3 := h2.1
    have h4 := h2.2
    omega
theorem szT_small (l : List Tok) (h : ∀ t ∈ l, smT 3000 t) : szT l ≤ l.length * 225100000 := by
  induction l with
  | nil => simp [szT]
  | cons t l ih =>
    have h1 := ih (fun x hx => h x (List.mem_cons_of_mem _ hx))
    obtain ⟨h2, h3, h4, h5⟩ := h t List.mem_cons_self
    have h6 := szA_small 3000 _ h4
    have h7 : t.2.2.1.length * (25 * 3000 + 4) ≤ 3000 * (25 * 3000 + 4) := Nat.mul_le_mul_right _ h3
    simp only [szT, List.map_cons, List.sum_cons, List.length_cons, Nat.add_mul] at *
    omega
theorem TokL_sz (s : List UInt8) (h : s.length ≤ 3000) : szT (TokL s) ≤ 1099511627776 := by
  have h1 := szT_small _ (TokL_small s h)
  have h2 := (TokL_right s).2
  have h3 : (TokL s).length * 225100000 ≤ 3000 * 225100000 := Nat.mul_le_mul_right _ (by omega)
  omega
end Go.Proofs.YtoaecehkmoehjaaGreatDoor

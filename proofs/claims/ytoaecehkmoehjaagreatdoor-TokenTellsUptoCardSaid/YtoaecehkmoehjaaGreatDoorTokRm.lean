/- Tokens: what stands behind what has been read is a text's end. -/
import Derived.Test.YtoaecehkmoehjaaGreatDoorTokRl
namespace Go.Proofs.YtoaecehkmoehjaaGreatDoor
open Go.RowKit

theorem cutS_sfx (p : List UInt8) : ∀ l r : List UInt8, cutS p l = some r → r <:+ l := by
  intro l
  induction l with
  | nil => intro r h; simp [cutS] at h
  | cons c l ih =>
    intro r h
    unfold cutS at h
    split at h
    · cases h; exact List.drop_suffix _ _
    · exact (ih r h).trans (List.suffix_cons _ _)
theorem valOf_sfx (t v u : List UInt8) (h : valOf t = some (v, u)) : u <:+ t := by
  have h1 := List.dropWhile_suffix (l := t) wht
  unfold valOf at h
  split at h
  · simp only [Option.some.injEq, Prod.mk.injEq] at h; obtain ⟨-, rfl⟩ := h; exact List.nil_suffix
  · rename_i q r e
    rw [e] at h1
    split at h
    · have h2 := List.dropWhile_suffix (l := r) (· != q)
      split at h
      · cases h
      · rename_i x s e2
        rw [e2] at h2
        simp only [Option.some.injEq, Prod.mk.injEq] at h; obtain ⟨-, rfl⟩ := h
        exact (((List.suffix_cons _ _).trans h2).trans (List.suffix_cons _ _)).trans h1
    · simp only [Option.some.injEq, Prod.mk.injEq] at h; obtain ⟨-, rfl⟩ := h
      exact (List.dropWhile_suffix vch).trans h1
theorem oneAt_sfx (c : UInt8) (r : List UInt8) (a : Atr) (u : List UInt8) (h : oneAt c r = some (a, u)) : u <:+ r := by
  have h1 := (List.dropWhile_suffix (l := r.dropWhile nch) wht).trans (List.dropWhile_suffix (l := r) nch)
  unfold oneAt at h
  split at h
  · simp only [Option.some.injEq, Prod.mk.injEq] at h; obtain ⟨-, rfl⟩ := h; exact List.nil_suffix
  · rename_i d s e
    rw [e] at h1
    split at h
    · split at h
      · cases h
      · rename_i v w e2
        simp only [Option.some.injEq, Prod.mk.injEq] at h; obtain ⟨-, rfl⟩ := h
        exact ((valOf_sfx _ _ _ e2).trans (List.suffix_cons _ _)).trans h1
    · simp only [Option.some.injEq, Prod.mk.injEq] at h; obtain ⟨-, rfl⟩ := h; exact h1
theorem atF_sfx (k : Nat) : ∀ (t : List UInt8) (out l : List Atr) (r : List UInt8), atF k t out = some (l, r) → r <:+ t := by
  induction k with
  | zero => intro t out l r h; simp [atF] at h
  | succ k ih =>
    intro t out l r h
    have h1 := List.dropWhile_suffix (l := t) wsl
    unfold atF at h
    split at h
    · cases h
    · rename_i c s e
      rw [e] at h1
      split at h
      · simp only [Option.some.injEq, Prod.mk.injEq] at h; obtain ⟨-, rfl⟩ := h; exact (List.suffix_cons _ _).trans h1
      · split at h
        · cases h
        · rename_i a u e2
          exact (((ih u _ l r h).trans (oneAt_sfx c s a u e2)).trans (List.suffix_cons _ _)).trans h1
theorem tagP_sfx (t : List UInt8) (o : Option Tok) (r : List UInt8) (h : tagP t = some (some (o, r))) : r <:+ t := by
  unfold tagP at h
  split at h
  · cases h
  · rename_i c s
    split at h
    · cases e : atP ((c :: s).dropWhile tch) [] with
      | none => rw [e] at h; simp at h
      | some x =>
        rw [e] at h
        simp only [Option.map_some, Option.some.injEq, Prod.mk.injEq] at h
        obtain ⟨-, rfl⟩ := h
        exact (atF_sfx _ _ _ _ _ e).trans (List.dropWhile_suffix _)
    split at h
    · cases e : cutS [62] (s.dropWhile tch) with
      | none => rw [e] at h; simp at h
      | some x =>
        rw [e] at h
        simp only [Option.map_some, Option.some.injEq, Prod.mk.injEq] at h
        obtain ⟨-, rfl⟩ := h
        exact ((cutS_sfx _ _ _ e).trans (List.dropWhile_suffix _)).trans (List.suffix_cons _ _)
    split at h
    · cases e : cutS [45, 45, 62] s with
      | none => rw [e] at h; simp at h
      | some x =>
        rw [e] at h
        simp only [Option.map_some, Option.some.injEq, Prod.mk.injEq] at h
        obtain ⟨-, rfl⟩ := h
        exact (cutS_sfx _ _ _ e).trans (List.suffix_cons _ _)
    split at h
    · cases e : cutS [62] (c :: s) with
      | none => rw [e] at h; simp at h
      | some x =>
        rw [e] at h
        simp only [Option.map_some, Option.some.injEq, Prod.mk.injEq] at h
        obtain ⟨-, rfl⟩ := h
        exact cutS_sfx _ _ _ e
    · cases h
theorem tagP_drop (s : List UInt8) (k : Nat) (o : Option Tok) (u : List UInt8) (h : tagP (s.drop (k + 1)) = some (some (o, u))) : s.drop (s.length - u.length) = u := sfx_drop ((tagP_sfx _ _ _ h).trans (List.drop_suffix _ _))
theorem tw_le (p : UInt8 → Bool) (l : List UInt8) : (l.takeWhile p).length ≤ l.length := (List.takeWhile_prefix _).length_le
theorem tagP_name (t : List UInt8) (o : Tok) (r : List UInt8) (h : tagP t = some (some (some o, r))) : o.2.1.length ≤ t.length := by
  unfold tagP at h
  split at h
  · cases h
  · rename_i c s
    split at h
    · cases e : atP ((c :: s).dropWhile tch) [] with
      | none => rw [e] at h; simp at h
      | some x =>
        rw [e] at h
        simp only [Option.map_some, Option.some.injEq, Prod.mk.injEq] at h
        obtain ⟨rfl, -⟩ := h
        simp only [fold_len]; exact tw_le _ _
    split at h
    · cases e : cutS [62] (s.dropWhile tch) with
      | none => rw [e] at h; simp at h
      | some x =>
        rw [e] at h
        simp only [Option.map_some, Option.some.injEq, Prod.mk.injEq] at h
        obtain ⟨rfl, -⟩ := h
        simp only [fold_len, List.length_cons]; exact Nat.le_succ_of_le (tw_le _ _)
    split at h
    · cases e : cutS [45, 45, 62] s with
      | none => rw [e] at h; simp at h
      | some x => rw [e] at h; simp at h
    split at h
    · cases e : cutS [62] (c :: s) with
      | none => rw [e] at h; simp at h
      | some x => rw [e] at h; simp at h
    · cases h
theorem Tkb.of_fr3 {w w' : World} {q : Nat} {k : Int} {n : List UInt8} {va : Value} {a b : Nat} {g : Option Nat} (h : Tkb w q k n va) (hF : Fr3 a b g w w') (ha : q ≠ a) (hb : q ≠ b) (hg : some q ≠ g) : Tkb w' q k n va := by
  have := h.lt
  unfold Tkb at *; rw [hF.block q this ha hb hg, h]
end Go.Proofs.YtoaecehkmoehjaaGreatDoor

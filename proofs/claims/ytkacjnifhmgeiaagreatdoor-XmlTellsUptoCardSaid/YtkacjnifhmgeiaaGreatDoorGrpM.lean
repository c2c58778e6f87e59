/- Tokens: one; Check of the program. · Tokens: Check of the program. · Tokens: a tag that closes. · Tokens: step. · Tokens: step: tags. · Tokens: step: what is passed. · Tokens: step whole; try; All; Read. · Tokens: All; Read. -/
import Derived.Test.YtkacjnifhmgeiaaGreatDoorGrpJ
import Derived.Test.YtkacjnifhmgeiaaGreatDoorGrpI
import Derived.Recover
import Derived.Test.YtkacjnifhmgeiaaGreatDoorGrpH
namespace Go.Proofs.YtkacjnifhmgeiaaGreatDoor
open Go.RowKit

def tkV (t : Tok) (va : Value) : Value := .agg #[.int .i64 t.1, .string ⟨t.2.1.toArray⟩, va, .string ⟨t.2.2.2.toArray⟩]
theorem tkE_kind {t : Tok} (h : t.1 < 1 ∨ 3 < t.1) : tkE t = 7 := by unfold tkE; rw [if_pos h]
theorem tkE_form {t : Tok} (h : ¬ (t.1 < 1 ∨ 3 < t.1)) (h2 : t.1 = 1 ∧ (t.2.1 ≠ [] ∨ t.2.2.1 ≠ [] ∨ t.2.2.2 = []) ∨ t.1 ≠ 1 ∧ t.2.2.2 ≠ [] ∨ t.1 = 3 ∧ t.2.2.1 ≠ []) : tkE t = 1 := by unfold tkE; rw [if_neg h, if_pos h2]
theorem tkE_text {t : Tok} (h : t.1 = 1) (h1 : t.2.1 = []) (h2 : t.2.2.1 = []) (h3 : t.2.2.2 ≠ []) : tkE t = 0 := by
  unfold tkE; rw [if_neg (by omega), if_neg (by simp [h, h1, h2, h3]), if_pos h]
theorem tkE_name {t : Tok} (h : t.1 = 2 ∨ t.1 = 3) (h1 : t.2.2.2 = []) (h2 : t.1 = 3 → t.2.2.1 = []) : tkE t = if isNm t.2.1 = false then 1 else atE t.2.2.1 := by
  unfold tkE
  rw [if_neg (by omega), if_neg, if_neg (by omega)]
  rintro (⟨a, _⟩ | ⟨_, b⟩ | ⟨c, d⟩)
  · omega
  · exact b h1
  · exact d (h2 c)
theorem emp {l : List UInt8} (h : l ≠ []) : l.isEmpty = false := by cases l <;> simp_all

end Go.Proofs.YtkacjnifhmgeiaaGreatDoor

namespace Go.Proofs.YtkacjnifhmgeiaaGreatDoor
open Go.RowKit

/-- Not too great for any machine. -/
def Sm (l : List Tok) : Prop := ∀ t ∈ l, t.2.1.length ≤ 1099511627776 ∧ t.2.2.1.length ≤ 1099511627776 ∧ (∀ a ∈ t.2.2.1, a.1.length ≤ 1099511627776 ∧ a.2.length ≤ 1099511627776) ∧ t.2.2.2.length ≤ 1099511627776
def pk (l : List Tok) : Nat → Int
  | 0 => 0
  | j + 1 => (l[j]?.map (·.1)).getD 0
theorem tkEF_cons (k : Int) (t : Tok) (l : List Tok) : tkEF k (t :: l) = if tkE t ≠ 0 then tkE t else if t.1 = 1 ∧ k = 1 then 4 else tkEF t.1 l := rfl

end Go.Proofs.YtkacjnifhmgeiaaGreatDoor

namespace Go.Proofs.YtkacjnifhmgeiaaGreatDoor
open Go.RowKit

end Go.Proofs.YtkacjnifhmgeiaaGreatDoor

namespace Go.Proofs.YtkacjnifhmgeiaaGreatDoor
open Go.RowKit

/-- One step: none: something has no end; else what is left, the text, what has come out. -/
def stP (t x : List UInt8) (l : List Tok) : Option (List UInt8 × List UInt8 × List Tok) :=
  match t with
  | [] => some ([], x, l)
  | c :: r =>
    if c = 60 then match tagP r with
      | none => some (r, x ++ [60], l)
      | some none => none
      | some (some (none, u)) => some (u, x, l)
      | some (some (some k, u)) => if isNm k.2.1 then some (u, [], flsh x l ++ [k]) else some (u, x, l)
    else some ((c :: r).dropWhile not60, x ++ (c :: r).takeWhile not60, l)
theorem not60_iff (c : UInt8) : not60 c = true ↔ c ≠ 60 := by
  have h1 : c.toNat = 60 ↔ c = 60 := ⟨fun h => UInt8.toNat_inj.1 h, fun h => by rw [h]; rfl⟩
  simp [not60, h1]
theorem tw_not60 (t : List UInt8) : 60 ∉ t.takeWhile not60 := by
  intro h
  have := mem_tw h
  exact absurd this (by decide)
theorem tkP_st (t x : List UInt8) (l : List Tok) (ht : t ≠ []) : tkP t x l = (match stP t x l with | none => flsh (x ++ t) l | some (u, x', l') => tkP u x' l') := by
  cases t with
  | nil => exact absurd rfl ht
  | cons c r =>
    unfold stP
    simp only []
    by_cases hc : c = 60
    · subst hc
      rw [if_pos rfl]
      cases h : tagP r with
      | none => exact tkP_lone r x l h
      | some o =>
        cases o with
        | none => exact tkP_open r x l h
        | some p =>
          obtain ⟨k, u⟩ := p
          cases k with
          | none => exact tkP_skip r u x l h
          | some k =>
            simp only []
            cases hn : isNm k.2.1
            · simp only [Bool.false_eq_true, if_false]; exact tkP_tagno r u x k l h hn
            · simp only [if_true]; exact tkP_tag r u x k l h hn
    · rw [if_neg hc]
      have := tkP_run ((c :: r).takeWhile not60) ((c :: r).dropWhile not60) x l (tw_not60 _)
      rw [List.takeWhile_append_dropWhile] at this
      exact this
/-- A tag has two bytes at least behind its <. -/
theorem tagP_len2 (t : List UInt8) (k : Tok) (r : List UInt8) (h : tagP t = some (some (some k, r))) : r.length + 2 ≤ t.length := by
  cases t with
  | nil => cases h
  | cons c s =>
    rw [tagP_cons] at h
    split at h
    · rename_i hc
      cases e : atP ((c :: s).dropWhile tch) [] with
      | none => rw [e] at h; simp at h
      | some x =>
        rw [e] at h
        simp only [Option.map_some, Option.some.injEq, Prod.mk.injEq] at h
        obtain ⟨_, rfl⟩ := h
        have h1 := atF_len _ _ _ _ _ e
        have hw : tch c = true := by
          have : (97 ≤ c.toNat ∧ c.toNat ≤ 122) ∨ (65 ≤ c.toNat ∧ c.toNat ≤ 90) := by
            simp only [ltr, lwr, Bool.or_eq_true, Bool.and_eq_true, decide_eq_true_eq] at hc; omega
          simp [tch, wht]; omega
        rw [List.dropWhile_cons_of_pos hw] at h1
        have h2 := dw_len (p := tch) s
        simp only [List.length_cons]; omega
    split at h
    · rename_i hc
      cases e : cutS [62] (s.dropWhile tch) with
      | none => rw [e] at h; simp at h
      | some x =>
        rw [e] at h
        simp only [Option.map_some, Option.some.injEq, Prod.mk.injEq] at h
        obtain ⟨_, rfl⟩ := h
        have h1 := cutS_len [62] (by simp) _ _ e
        have h2 := dw_len (p := tch) s
        simp only [List.length_cons]; omega
    split at h
    · cases e : cutS [45, 45, 62] s with
      | none => rw [e] at h; simp at h
      | some x => rw [e] at h; simp at h
    split at h
    · cases e : cutS [62] (c :: s) with
      | none => rw [e] at h; simp at h
      | some x => rw [e] at h; simp at h
    · cases h
theorem stP_len (t x : List UInt8) (l : List Tok) (ht : t ≠ []) (u x' : List UInt8) (l' : List Tok) (h : stP t x l = some (u, x', l')) : u.length < t.length ∧ x'.length + u.length ≤ x.length + t.length ∧ l'.length + u.length ≤ l.length + t.length := by
  cases t with
  | nil => exact absurd rfl ht
  | cons c r =>
    unfold stP at h
    simp only [] at h
    have hfl : (flsh x l).length ≤ l.length + 1 := by unfold flsh; split <;> simp
    split at h
    · cases e : tagP r with
      | none =>
        rw [e] at h; simp only [Option.some.injEq, Prod.mk.injEq] at h; obtain ⟨rfl, rfl, rfl⟩ := h
        simp; omega
      | some o =>
        rw [e] at h
        cases o with
        | none => simp at h
        | some p =>
          obtain ⟨k, u'⟩ := p
          have hl := tagP_len _ _ _ e
          cases k with
          | none =>
            simp only [Option.some.injEq, Prod.mk.injEq] at h; obtain ⟨rfl, rfl, rfl⟩ := h
            simp only [List.length_cons]; omega
          | some k =>
            simp only [] at h
            have hl2 := tagP_len2 _ _ _ e
            split at h
            · simp only [Option.some.injEq, Prod.mk.injEq] at h; obtain ⟨rfl, rfl, rfl⟩ := h
              simp only [List.length_cons, List.length_append, List.length_nil]; omega
            · simp only [Option.some.injEq, Prod.mk.injEq] at h; obtain ⟨rfl, rfl, rfl⟩ := h
              simp only [List.length_cons]; omega
    · rename_i hc
      simp only [Option.some.injEq, Prod.mk.injEq] at h; obtain ⟨rfl, rfl, rfl⟩ := h
      have h1 := congrArg List.length (List.takeWhile_append_dropWhile (p := not60) (l := c :: r))
      have h2 : (c :: r).takeWhile not60 = c :: r.takeWhile not60 := by rw [List.takeWhile_cons, if_pos ((not60_iff c).2 hc)]
      rw [List.length_append] at h1
      rw [h2] at h1 ⊢
      simp only [List.length_cons, List.length_append] at h1 ⊢
      omega

theorem pre_one (p : UInt8) (q r : List UInt8) : pre (p :: q) (p :: r) = pre q r := by simp [pre]
theorem pre_ne {p c : UInt8} (q r : List UInt8) (h : c ≠ p) : pre (p :: q) (c :: r) = false := by
  have : (p == c) = false := beq_false_of_ne (Ne.symm h)
  simp only [pre, List.isPrefixOf, this, Bool.false_and]
theorem Bl.to_below {w w' : World} (h : Bl w w') (b : Nat) (hb : b ≤ w.heap.size) : Below b w w' := Below.mono h hb
def opR (r x : List UInt8) (l : List Tok) : Option (List UInt8 × List UInt8 × List Tok) := (atP (r.dropWhile tch) []).map fun y => if isNm (fold (r.takeWhile tch)) then (y.2, [], flsh x l ++ [(2, fold (r.takeWhile tch), y.1, [])]) else (y.2, x, l)
def clR (r x : List UInt8) (l : List Tok) : Option (List UInt8 × List UInt8 × List Tok) := (cutS [62] (r.dropWhile tch)).map fun u => if isNm (fold (r.takeWhile tch)) then (u, [], flsh x l ++ [(3, fold (r.takeWhile tch), [], [])]) else (u, x, l)

end Go.Proofs.YtkacjnifhmgeiaaGreatDoor

namespace Go.Proofs.YtkacjnifhmgeiaaGreatDoor
open Go.RowKit


end Go.Proofs.YtkacjnifhmgeiaaGreatDoor

namespace Go.Proofs.YtkacjnifhmgeiaaGreatDoor
open Go.RowKit


end Go.Proofs.YtkacjnifhmgeiaaGreatDoor

namespace Go.Proofs.YtkacjnifhmgeiaaGreatDoor
open Go.RowKit

theorem hd_head (r : List UInt8) : hd ltr r = (r.head?.map ltr).getD false := by cases r <;> rfl
theorem cutS_skip (p c : UInt8) (r : List UInt8) (h : p ≠ c) : cutS [p] (c :: r) = cutS [p] r := by
  conv => lhs; unfold cutS
  rw [if_neg]
  simp only [pre, List.isPrefixOf, Bool.and_true, beq_iff_eq]; exact h
/-- The variable of a named result. -/
def Ok (w : World) (k : Nat) (v : Bool) : Prop := w.heap[k]? = some (.cells #[.bool v] 4 (0, 0))
theorem Ok.cells {w : World} {k : Nat} {v : Bool} (h : Ok w k v) : w.cell? ⟨k, 0, none⟩ = some (.bool v) ∧ w.frozen? ⟨k, 0, none⟩ = false := by
  unfold Ok at h
  simp [World.cell?, World.frozen?, h]
end Go.Proofs.YtkacjnifhmgeiaaGreatDoor

namespace Go.Proofs.YtkacjnifhmgeiaaGreatDoor
open Go.RowKit

theorem tkP_lenT (s : List UInt8) : (TokL s).length ≤ s.length := by
  suffices h : ∀ (k : Nat) (s x : List UInt8) (l : List Tok), s.length ≤ k → (tkF k s x l).length ≤ l.length + (if x = [] then 0 else 1) + s.length by
    have := h s.length s [] [] (Nat.le_refl _)
    simpa [TokL, tkP] using this
  have hfl : ∀ (x : List UInt8) (l : List Tok), (flsh x l).length ≤ l.length + (if x = [] then 0 else 1) := by
    intro x l
    unfold flsh
    by_cases hx : x = []
    · subst hx; simp [Tk_nil]
    · rw [if_neg hx]; split <;> simp
  intro k
  induction k with
  | zero => intro s x l _; have := hfl x l; simp only [tkF]; omega
  | succ k ih =>
    intro s x l hs
    cases s with
    | nil => have := hfl x l; simp only [tkF]; omega
    | cons c r =>
      simp only [List.length_cons, Nat.add_le_add_iff_right] at hs ⊢
      have h01 : (if x = [] then 0 else 1) ≤ 1 := by split <;> omega
      unfold tkF
      split
      · split
        · have := ih r (x ++ [60]) l hs
          rw [if_neg (by simp)] at this; omega
        · have := hfl (x ++ 60 :: r) l
          rw [if_neg (by simp)] at this; omega
        · rename_i u e
          have hl := tagP_len _ _ _ e
          have := ih u x l (by omega); omega
        · rename_i t u e
          have hl := tagP_len _ _ _ e
          split
          · have h1 := ih u [] (flsh x l ++ [t]) (by omega)
            have h2 := hfl x l
            rw [if_pos rfl] at h1
            simp only [List.length_append, List.length_singleton] at h1; omega
          · have := ih u x l (by omega); omega
      · have := ih r (x ++ [c]) l hs
        rw [if_neg (by simp)] at this; omega

theorem own_base {w : World} {B B' : Nat} {e : TypeId} {sz n : Nat} {v : Value} {xs : List Value} (h : w.ownsRow B e sz v n xs) (hB : B' ≤ B) : w.ownsRow B' e sz v n xs := by
  refine ⟨h.1, ?_⟩
  rcases h.2 with hn | ⟨k, cap, cur, rfl, hk, rest⟩
  · exact .inl hn
  · exact .inr ⟨k, cap, cur, rfl, Nat.le_trans hB hk, rest⟩
/-- Own tokens read as tokens. -/
theorem addr_add0 (g i : Nat) : (⟨g, 0, none⟩ : Addr).add i = ⟨g, i, none⟩ := by unfold Addr.add; split <;> simp_all
def rdT (s : List UInt8) : List Tok := if 3000 < s.length then [] else TokL s
def rdE (s : List UInt8) : Int := if 3000 < s.length then 2 else 0
theorem TkS.nil (w : World) : TkS w (.slice none 0 0) [] := ⟨none, 0, rfl, fun i hi => absurd hi (by simp)⟩
end Go.Proofs.YtkacjnifhmgeiaaGreatDoor

/- Tokens: what reading, checking and printing answer, said by plain functions. -/
import Derived.Test.YtoaecehkmoehjaaGreatDoorEscP
import Derived.Test.YtoaecehkmoehjaaGreatDoorGrpA
namespace Go.Proofs.YtoaecehkmoehjaaGreatDoor
open Go.RowKit

/-- Name and value. -/
abbrev Atr := List UInt8 × List UInt8
/-- Kind, name, attributes, text. -/
abbrev Tok := Int × List UInt8 × List Atr × List UInt8

/-- Behind the first such text; none: there is none. -/
def cutS (p : List UInt8) : List UInt8 → Option (List UInt8)
  | [] => none
  | c :: r => if pre p (c :: r) then some ((c :: r).drop p.length) else cutS p r
/-- A value behind a =, as it stands, and what stands behind it. -/
def valOf (t : List UInt8) : Option (List UInt8 × List UInt8) :=
  match t.dropWhile wht with
  | [] => some ([], [])
  | q :: r => if q = 34 ∨ q = 39 then (match r.dropWhile (· != q) with | [] => none | _ :: s => some (r.takeWhile (· != q), s)) else some ((q :: r).takeWhile vch, (q :: r).dropWhile vch)
/-- An attribute that begins with a byte. -/
def oneAt (c : UInt8) (r : List UInt8) : Option (Atr × List UInt8) :=
  match (r.dropWhile nch).dropWhile wht with
  | [] => some ((fold (c :: r.takeWhile nch), []), [])
  | d :: s => if d = 61 then (match valOf s with | none => none | some (v, u) => some ((fold (c :: r.takeWhile nch), (Tk v).1), u)) else some ((fold (c :: r.takeWhile nch), []), d :: s)
def addA (out : List Atr) (a : Atr) : List Atr := if isNm a.1 && !(out.any fun x => x.1 == a.1) then out ++ [a] else out
def atF : Nat → List UInt8 → List Atr → Option (List Atr × List UInt8)
  | 0, _, _ => none
  | k + 1, t, out => match t.dropWhile wsl with
    | [] => none
    | c :: r => if c = 62 then some (out, r) else match oneAt c r with
      | none => none
      | some (a, u) => atF k u (addA out a)
def atP (t : List UInt8) (out : List Atr) : Option (List Atr × List UInt8) := atF (t.length + 1) t out

theorem dw_len {p : UInt8 → Bool} (l : List UInt8) : (l.dropWhile p).length ≤ l.length := (List.dropWhile_suffix p).length_le
theorem cutS_len (p : List UInt8) (hp : 0 < p.length) : ∀ l r : List UInt8, cutS p l = some r → r.length < l.length := by
  intro l
  induction l with
  | nil => intro r h; simp [cutS] at h
  | cons c l ih =>
    intro r h
    unfold cutS at h
    split at h
    · cases h; simp; omega
    · have := ih r h; simp; omega
theorem valOf_len (t : List UInt8) (v u : List UInt8) (h : valOf t = some (v, u)) : u.length ≤ t.length ∧ v.length ≤ t.length := by
  have h1 := dw_len (p := wht) t
  unfold valOf at h
  split at h
  · simp only [Option.some.injEq, Prod.mk.injEq] at h; obtain ⟨rfl, rfl⟩ := h; simp
  · rename_i q r e
    rw [e] at h1
    simp only [List.length_cons] at h1
    split at h
    · have h2 := dw_len (p := (· != q)) r
      split at h
      · cases h
      · rename_i x s e2
        rw [e2] at h2
        simp only [Option.some.injEq, Prod.mk.injEq] at h; obtain ⟨rfl, rfl⟩ := h
        have h3 : (r.takeWhile (· != q)).length ≤ r.length := (List.takeWhile_prefix _).length_le
        simp only [List.length_cons] at h2; omega
    · simp only [Option.some.injEq, Prod.mk.injEq] at h; obtain ⟨rfl, rfl⟩ := h
      have h2 := dw_len (p := vch) (q :: r)
      have h3 : ((q :: r).takeWhile vch).length ≤ (q :: r).length := (List.takeWhile_prefix _).length_le
      simp only [List.length_cons] at h2 h3 ⊢; omega
theorem oneAt_len (c : UInt8) (r : List UInt8) (a : Atr) (u : List UInt8) (h : oneAt c r = some (a, u)) : u.length ≤ r.length := by
  have h1 := dw_len (p := wht) (r.dropWhile nch)
  have h2 := dw_len (p := nch) r
  unfold oneAt at h
  split at h
  · simp only [Option.some.injEq, Prod.mk.injEq] at h; obtain ⟨_, rfl⟩ := h; simp
  · rename_i d s e
    rw [e] at h1
    simp only [List.length_cons] at h1
    split at h
    · split at h
      · cases h
      · rename_i v w e2
        simp only [Option.some.injEq, Prod.mk.injEq] at h; obtain ⟨_, rfl⟩ := h
        have := (valOf_len _ _ _ e2).1; omega
    · simp only [Option.some.injEq, Prod.mk.injEq] at h; obtain ⟨_, rfl⟩ := h
      simp only [List.length_cons]; omega
theorem atF_two (k : Nat) : ∀ (j : Nat) (t : List UInt8) (out : List Atr), t.length < k → t.length < j → atF k t out = atF j t out := by
  induction k with
  | zero => intro j t out h; omega
  | succ k ih =>
    intro j t out h h'
    cases j with
    | zero => omega
    | succ j =>
      have h1 := dw_len (p := wsl) t
      unfold atF
      split
      · rfl
      · rename_i c r e
        rw [e] at h1
        simp only [List.length_cons] at h1
        split
        · rfl
        · split
          · rfl
          · rename_i a u e2
            have := oneAt_len c r a u e2
            exact ih j u _ (by omega) (by omega)
theorem atF_eq (k : Nat) (t : List UInt8) (out : List Atr) (h : t.length < k) : atF k t out = atP t out := atF_two k _ t out h (Nat.lt_succ_self _)
theorem atP_nil {t : List UInt8} {out : List Atr} (h : t.dropWhile wsl = []) : atP t out = none := by
  unfold atP atF; rw [h]
theorem atP_end {t r : List UInt8} {out : List Atr} (h : t.dropWhile wsl = 62 :: r) : atP t out = some (out, r) := by
  unfold atP atF; rw [h]; rfl
theorem atP_no {t r : List UInt8} {c : UInt8} {out : List Atr} (h : t.dropWhile wsl = c :: r) (hc : c ≠ 62) (h2 : oneAt c r = none) : atP t out = none := by
  unfold atP atF; rw [h]; simp only [if_neg hc, h2]
theorem atP_go {t r u : List UInt8} {c : UInt8} {a : Atr} {out : List Atr} (h : t.dropWhile wsl = c :: r) (hc : c ≠ 62) (h2 : oneAt c r = some (a, u)) : atP t out = atP u (addA out a) := by
  have h1 := dw_len (p := wsl) t
  have h3 := oneAt_len c r a u h2
  rw [h] at h1
  simp only [List.length_cons] at h1
  conv => lhs; unfold atP atF
  rw [h]; simp only [if_neg hc, h2]
  exact atF_eq _ _ _ (by omega)
theorem atF_len (k : Nat) : ∀ (t : List UInt8) (out l : List Atr) (r : List UInt8), atF k t out = some (l, r) → r.length < t.length := by
  induction k with
  | zero => intro t out l r h; simp [atF] at h
  | succ k ih =>
    intro t out l r h
    have h1 := dw_len (p := wsl) t
    unfold atF at h
    split at h
    · cases h
    · rename_i c s e
      rw [e] at h1
      simp only [List.length_cons] at h1
      split at h
      · simp only [Option.some.injEq, Prod.mk.injEq] at h; obtain ⟨_, rfl⟩ := h; omega
      · split at h
        · cases h
        · rename_i a u e2
          have h3 := oneAt_len c s a u e2
          have := ih u _ l r h; omega

/-- What stands behind a <: none: nothing that is known; some none: it has no end; else a token or none, and what stands behind it. -/
def tagP : List UInt8 → Option (Option (Option Tok × List UInt8))
  | [] => none
  | c :: r =>
    if ltr c then some ((atP ((c :: r).dropWhile tch) []).map fun x => (some (2, fold ((c :: r).takeWhile tch), x.1, []), x.2))
    else if c = 47 ∧ (r.head?.map ltr).getD false = true then some ((cutS [62] (r.dropWhile tch)).map fun x => (some (3, fold (r.takeWhile tch), [], []), x))
    else if pre [33, 45, 45] (c :: r) then some ((cutS [45, 45, 62] r).map fun x => (none, x))
    else if c = 33 ∨ c = 63 ∨ c = 47 then some ((cutS [62] (c :: r)).map fun x => (none, x))
    else none
theorem tagP_cons (c : UInt8) (r : List UInt8) : tagP (c :: r) =
    if ltr c then some ((atP ((c :: r).dropWhile tch) []).map fun x => (some (2, fold ((c :: r).takeWhile tch), x.1, []), x.2))
    else if c = 47 ∧ (r.head?.map ltr).getD false = true then some ((cutS [62] (r.dropWhile tch)).map fun x => (some (3, fold (r.takeWhile tch), [], []), x))
    else if pre [33, 45, 45] (c :: r) then some ((cutS [45, 45, 62] r).map fun x => (none, x))
    else if c = 33 ∨ c = 63 ∨ c = 47 then some ((cutS [62] (c :: r)).map fun x => (none, x))
    else none := rfl
theorem tagP_len (t : List UInt8) (o : Option Tok) (r : List UInt8) (h : tagP t = some (some (o, r))) : r.length ≤ t.length := by
  unfold tagP at h
  split at h
  · cases h
  · rename_i c s
    have h1 := dw_len (p := tch) (c :: s)
    have h2 := dw_len (p := tch) s
    split at h
    · cases e : atP ((c :: s).dropWhile tch) [] with
      | none => rw [e] at h; simp at h
      | some x =>
        rw [e] at h
        simp only [Option.map_some, Option.some.injEq, Prod.mk.injEq] at h
        obtain ⟨_, rfl⟩ := h
        have := atF_len _ _ _ _ _ e
        simp only [List.length_cons] at *; omega
    split at h
    · cases e : cutS [62] (s.dropWhile tch) with
      | none => rw [e] at h; simp at h
      | some x =>
        rw [e] at h
        simp only [Option.map_some, Option.some.injEq, Prod.mk.injEq] at h
        obtain ⟨_, rfl⟩ := h
        have := cutS_len [62] (by simp) _ _ e
        simp only [List.length_cons] at *; omega
    split at h
    · cases e : cutS [45, 45, 62] s with
      | none => rw [e] at h; simp at h
      | some x =>
        rw [e] at h
        simp only [Option.map_some, Option.some.injEq, Prod.mk.injEq] at h
        obtain ⟨_, rfl⟩ := h
        have := cutS_len [45, 45, 62] (by simp) _ _ e
        simp only [List.length_cons] at *; omega
    split at h
    · cases e : cutS [62] (c :: s) with
      | none => rw [e] at h; simp at h
      | some x =>
        rw [e] at h
        simp only [Option.map_some, Option.some.injEq, Prod.mk.injEq] at h
        obtain ⟨_, rfl⟩ := h
        have := cutS_len [62] (by simp) _ _ e
        omega
    · cases h

/-- The text since the last tag, as a token. -/
def flsh (text : List UInt8) (out : List Tok) : List Tok := if (Tk text).1 = [] then out else out ++ [(1, [], [], (Tk text).1)]
def tkF : Nat → List UInt8 → List UInt8 → List Tok → List Tok
  | 0, _, text, out => flsh text out
  | _ + 1, [], text, out => flsh text out
  | k + 1, c :: r, text, out =>
    if c = 60 then match tagP r with
      | none => tkF k r (text ++ [60]) out
      | some none => flsh (text ++ 60 :: r) out
      | some (some (none, u)) => tkF k u text out
      | some (some (some t, u)) => if isNm t.2.1 then tkF k u [] (flsh text out ++ [t]) else tkF k u text out
    else tkF k r (text ++ [c]) out
def tkP (s text : List UInt8) (out : List Tok) : List Tok := tkF s.length s text out
/-- All tokens of a text. -/
def TokL (s : List UInt8) : List Tok := tkP s [] []
theorem tkF_two (k : Nat) : ∀ (j : Nat) (s text : List UInt8) (out : List Tok), s.length ≤ k → s.length ≤ j → tkF k s text out = tkF j s text out := by
  induction k with
  | zero =>
    intro j s text out h _
    obtain rfl := List.eq_nil_of_length_eq_zero (Nat.le_zero.1 h)
    cases j <;> rfl
  | succ k ih =>
    intro j s text out h h'
    cases s with
    | nil => cases j <;> rfl
    | cons c r =>
      cases j with
      | zero => simp at h'
      | succ j =>
        simp only [List.length_cons, Nat.add_le_add_iff_right] at h h'
        unfold tkF
        split
        · split
          · exact ih j _ _ _ h h'
          · rfl
          · rename_i u e
            have := tagP_len _ _ _ e
            exact ih j _ _ _ (by omega) (by omega)
          · rename_i t u e
            have := tagP_len _ _ _ e
            split <;> exact ih j _ _ _ (by omega) (by omega)
        · exact ih j _ _ _ h h'
theorem tkF_eq (k : Nat) (s text : List UInt8) (out : List Tok) (h : s.length ≤ k) : tkF k s text out = tkP s text out := tkF_two k _ s text out h (Nat.le_refl _)
theorem tkP_nil (text : List UInt8) (out : List Tok) : tkP [] text out = flsh text out := rfl
theorem tkP_plain (c : UInt8) (r text : List UInt8) (out : List Tok) (h : c ≠ 60) : tkP (c :: r) text out = tkP r (text ++ [c]) out := by
  conv => lhs; unfold tkP; rw [List.length_cons]; unfold tkF
  rw [if_neg h]; rfl
theorem tkP_run (p r text : List UInt8) (out : List Tok) (h : 60 ∉ p) : tkP (p ++ r) text out = tkP r (text ++ p) out := by
  induction p generalizing text with
  | nil => simp
  | cons c p ih =>
    simp only [List.mem_cons, not_or] at h
    rw [List.cons_append, tkP_plain _ _ _ _ (fun e => h.1 e.symm), ih _ h.2]; simp
theorem tkP_lone (r text : List UInt8) (out : List Tok) (h : tagP r = none) : tkP (60 :: r) text out = tkP r (text ++ [60]) out := by
  conv => lhs; unfold tkP; rw [List.length_cons]; unfold tkF
  rw [if_pos rfl, h]; rfl
theorem tkP_open (r text : List UInt8) (out : List Tok) (h : tagP r = some none) : tkP (60 :: r) text out = flsh (text ++ 60 :: r) out := by
  conv => lhs; unfold tkP; rw [List.length_cons]; unfold tkF
  rw [if_pos rfl, h]
theorem tkP_skip (r u text : List UInt8) (out : List Tok) (h : tagP r = some (some (none, u))) : tkP (60 :: r) text out = tkP u text out := by
  have := tagP_len _ _ _ h
  conv => lhs; unfold tkP; rw [List.length_cons]; unfold tkF
  rw [if_pos rfl, h]; exact tkF_eq _ _ _ _ this
theorem tkP_tag (r u text : List UInt8) (t : Tok) (out : List Tok) (h : tagP r = some (some (some t, u))) (hn : isNm t.2.1 = true) : tkP (60 :: r) text out = tkP u [] (flsh text out ++ [t]) := by
  have := tagP_len _ _ _ h
  conv => lhs; unfold tkP; rw [List.length_cons]; unfold tkF
  rw [if_pos rfl, h]; simp only [hn, if_true]; exact tkF_eq _ _ _ _ this
theorem tkP_tagno (r u text : List UInt8) (t : Tok) (out : List Tok) (h : tagP r = some (some (some t, u))) (hn : isNm t.2.1 = false) : tkP (60 :: r) text out = tkP u text out := by
  have := tagP_len _ _ _ h
  conv => lhs; unfold tkP; rw [List.length_cons]; unfold tkF
  rw [if_pos rfl, h]; simp only [hn, Bool.false_eq_true, if_false]; exact tkF_eq _ _ _ _ this

/-- What is wrong with attributes; with one token; with tokens. -/
def atEF : List Atr → List Atr → Int
  | _, [] => 0
  | p, a :: l => if isNm a.1 = false then 1 else if (p.any fun x => x.1 == a.1) then 6 else atEF (p ++ [a]) l
def atE (l : List Atr) : Int := atEF [] l
def tkE (t : Tok) : Int :=
  if t.1 < 1 ∨ 3 < t.1 then 7
  else if t.1 = 1 ∧ (t.2.1 ≠ [] ∨ t.2.2.1 ≠ [] ∨ t.2.2.2 = []) ∨ t.1 ≠ 1 ∧ t.2.2.2 ≠ [] ∨ t.1 = 3 ∧ t.2.2.1 ≠ [] then 1
  else if t.1 = 1 then 0 else if isNm t.2.1 = false then 1 else atE t.2.2.1
def tkEF : Int → List Tok → Int
  | _, [] => 0
  | k, t :: l => if tkE t ≠ 0 then tkE t else if t.1 = 1 ∧ k = 1 then 4 else tkEF t.1 l
/-- CheckTokens. -/
def ckE (l : List Tok) : Int := if 3000 < l.length then 2 else tkEF 0 l
/-- Attributes, a token, tokens as they are written. -/
def atW (l : List Atr) : List UInt8 := l.flatMap fun a => 32 :: a.1 ++ [61, 34] ++ PutL a.2 ++ [34]
def tkW (t : Tok) : List UInt8 := if t.1 = 1 then PutL t.2.2.2 else if t.1 = 2 then 60 :: t.2.1 ++ atW t.2.2.1 ++ [62] else if t.1 = 3 then [60, 47] ++ t.2.1 ++ [62] else []
def tksW (l : List Tok) : List UInt8 := l.flatMap tkW
end Go.Proofs.YtoaecehkmoehjaaGreatDoor

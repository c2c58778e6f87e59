/- Tokens: what reading, checking and printing answer, said by plain functions. · Trees: what building, checking and flattening answer, said by plain functions; plain laws. · Documents: what reading, checking and printing answer, said by plain functions. · Trees: plain laws: what is built is right; built of its own tokens it is the same; walls; texts. · Signs that are put are taken as they were: plain laws. · Documents: plain laws: what is written is read; what is read is right; a text in an element. · Documents: plain functions, a step at a time. -/
import Derived.Test.YtkacjnifhmgeiaaGreatDoorGrpD
namespace Go.Proofs.YtkacjnifhmgeiaaGreatDoor
open Go.RowKit

/-- Name and value. -/
abbrev Atr := List UInt8 × List UInt8
/-- Kind, name, attributes, text. -/
abbrev Tok := Int × List UInt8 × List Atr × List UInt8

/-- Behind the first such text; none: there is none. -/
def cutS (p : List UInt8) : List UInt8 → Option (List UInt8)
  | [] => none
  | c :: r => if pre p (c :: r) then some ((c :: r).drop p.length) else cutS p r
/-- A value behind a =, as it stands, and what stands behind it. -/
def valOf (t : List UInt8) : Option (List UInt8 × List UInt8) :=
  match t.dropWhile wht with
  | [] => some ([], [])
  | q :: r => if q = 34 ∨ q = 39 then (match r.dropWhile (· != q) with | [] => none | _ :: s => some (r.takeWhile (· != q), s)) else some ((q :: r).takeWhile vch, (q :: r).dropWhile vch)
/-- An attribute that begins with a byte. -/
def oneAt (c : UInt8) (r : List UInt8) : Option (Atr × List UInt8) :=
  match (r.dropWhile nch).dropWhile wht with
  | [] => some ((fold (c :: r.takeWhile nch), []), [])
  | d :: s => if d = 61 then (match valOf s with | none => none | some (v, u) => some ((fold (c :: r.takeWhile nch), (Tk v).1), u)) else some ((fold (c :: r.takeWhile nch), []), d :: s)
def addA (out : List Atr) (a : Atr) : List Atr := if isNm a.1 && !(out.any fun x => x.1 == a.1) then out ++ [a] else out
def atF : Nat → List UInt8 → List Atr → Option (List Atr × List UInt8)
  | 0, _, _ => none
  | k + 1, t, out => match t.dropWhile wsl with
    | [] => none
    | c :: r => if c = 62 then some (out, r) else match oneAt c r with
      | none => none
      | some (a, u) => atF k u (addA out a)
def atP (t : List UInt8) (out : List Atr) : Option (List Atr × List UInt8) := atF (t.length + 1) t out

theorem dw_len {p : UInt8 → Bool} (l : List UInt8) : (l.dropWhile p).length ≤ l.length := (List.dropWhile_suffix p).length_le
theorem cutS_len (p : List UInt8) (hp : 0 < p.length) : ∀ l r : List UInt8, cutS p l = some r → r.length < l.length := by
  intro l
  induction l with
  | nil => intro r h; simp [cutS] at h
  | cons c l ih =>
    intro r h
    unfold cutS at h
    split at h
    · cases h; simp; omega
    · have := ih r h; simp; omega
theorem valOf_len (t : List UInt8) (v u : List UInt8) (h : valOf t = some (v, u)) : u.length ≤ t.length ∧ v.length ≤ t.length := by
  have h1 := dw_len (p := wht) t
  unfold valOf at h
  split at h
  · simp only [Option.some.injEq, Prod.mk.injEq] at h; obtain ⟨rfl, rfl⟩ := h; simp
  · rename_i q r e
    rw [e] at h1
    simp only [List.length_cons] at h1
    split at h
    · have h2 := dw_len (p := (· != q)) r
      split at h
      · cases h
      · rename_i x s e2
        rw [e2] at h2
        simp only [Option.some.injEq, Prod.mk.injEq] at h; obtain ⟨rfl, rfl⟩ := h
        have h3 : (r.takeWhile (· != q)).length ≤ r.length := (List.takeWhile_prefix _).length_le
        simp only [List.length_cons] at h2; omega
    · simp only [Option.some.injEq, Prod.mk.injEq] at h; obtain ⟨rfl, rfl⟩ := h
      have h2 := dw_len (p := vch) (q :: r)
      have h3 : ((q :: r).takeWhile vch).length ≤ (q :: r).length := (List.takeWhile_prefix _).length_le
      simp only [List.length_cons] at h2 h3 ⊢; omega
theorem oneAt_len (c : UInt8) (r : List UInt8) (a : Atr) (u : List UInt8) (h : oneAt c r = some (a, u)) : u.length ≤ r.length := by
  have h1 := dw_len (p := wht) (r.dropWhile nch)
  have h2 := dw_len (p := nch) r
  unfold oneAt at h
  split at h
  · simp only [Option.some.injEq, Prod.mk.injEq] at h; obtain ⟨_, rfl⟩ := h; simp
  · rename_i d s e
    rw [e] at h1
    simp only [List.length_cons] at h1
    split at h
    · split at h
      · cases h
      · rename_i v w e2
        simp only [Option.some.injEq, Prod.mk.injEq] at h; obtain ⟨_, rfl⟩ := h
        have := (valOf_len _ _ _ e2).1; omega
    · simp only [Option.some.injEq, Prod.mk.injEq] at h; obtain ⟨_, rfl⟩ := h
      simp only [List.length_cons]; omega
theorem atF_two (k : Nat) : ∀ (j : Nat) (t : List UInt8) (out : List Atr), t.length < k → t.length < j → atF k t out = atF j t out := by
  induction k with
  | zero => intro j t out h; omega
  | succ k ih =>
    intro j t out h h'
    cases j with
    | zero => omega
    | succ j =>
      have h1 := dw_len (p := wsl) t
      unfold atF
      split
      · rfl
      · rename_i c r e
        rw [e] at h1
        simp only [List.length_cons] at h1
        split
        · rfl
        · split
          · rfl
          · rename_i a u e2
            have := oneAt_len c r a u e2
            exact ih j u _ (by omega) (by omega)
theorem atF_eq (k : Nat) (t : List UInt8) (out : List Atr) (h : t.length < k) : atF k t out = atP t out := atF_two k _ t out h (Nat.lt_succ_self _)
theorem atP_nil {t : List UInt8} {out : List Atr} (h : t.dropWhile wsl = []) : atP t out = none := by
  unfold atP atF; rw [h]
theorem atP_end {t r : List UInt8} {out : List Atr} (h : t.dropWhile wsl = 62 :: r) : atP t out = some (out, r) := by
  unfold atP atF; rw [h]; rfl
theorem atP_no {t r : List UInt8} {c : UInt8} {out : List Atr} (h : t.dropWhile wsl = c :: r) (hc : c ≠ 62) (h2 : oneAt c r = none) : atP t out = none := by
  unfold atP atF; rw [h]; simp only [if_neg hc, h2]
theorem atP_go {t r u : List UInt8} {c : UInt8} {a : Atr} {out : List Atr} (h : t.dropWhile wsl = c :: r) (hc : c ≠ 62) (h2 : oneAt c r = some (a, u)) : atP t out = atP u (addA out a) := by
  have h1 := dw_len (p := wsl) t
  have h3 := oneAt_len c r a u h2
  rw [h] at h1
  simp only [List.length_cons] at h1
  conv => lhs; unfold atP atF
  rw [h]; simp only [if_neg hc, h2]
  exact atF_eq _ _ _ (by omega)
theorem atF_len (k : Nat) : ∀ (t : List UInt8) (out l : List Atr) (r : List UInt8), atF k t out = some (l, r) → r.length < t.length := by
  induction k with
  | zero => intro t out l r h; simp [atF] at h
  | succ k ih =>
    intro t out l r h
    have h1 := dw_len (p := wsl) t
    unfold atF at h
    split at h
    · cases h
    · rename_i c s e
      rw [e] at h1
      simp only [List.length_cons] at h1
      split at h
      · simp only [Option.some.injEq, Prod.mk.injEq] at h; obtain ⟨_, rfl⟩ := h; omega
      · split at h
        · cases h
        · rename_i a u e2
          have h3 := oneAt_len c s a u e2
          have := ih u _ l r h; omega

/-- What stands behind a <: none: nothing that is known; some none: it has no end; else a token or none, and what stands behind it. -/
def tagP : List UInt8 → Option (Option (Option Tok × List UInt8))
  | [] => none
  | c :: r =>
    if ltr c then some ((atP ((c :: r).dropWhile tch) []).map fun x => (some (2, fold ((c :: r).takeWhile tch), x.1, []), x.2))
    else if c = 47 ∧ (r.head?.map ltr).getD false = true then some ((cutS [62] (r.dropWhile tch)).map fun x => (some (3, fold (r.takeWhile tch), [], []), x))
    else if pre [33, 45, 45] (c :: r) then some ((cutS [45, 45, 62] r).map fun x => (none, x))
    else if c = 33 ∨ c = 63 ∨ c = 47 then some ((cutS [62] (c :: r)).map fun x => (none, x))
    else none
theorem tagP_cons (c : UInt8) (r : List UInt8) : tagP (c :: r) =
    if ltr c then some ((atP ((c :: r).dropWhile tch) []).map fun x => (some (2, fold ((c :: r).takeWhile tch), x.1, []), x.2))
    else if c = 47 ∧ (r.head?.map ltr).getD false = true then some ((cutS [62] (r.dropWhile tch)).map fun x => (some (3, fold (r.takeWhile tch), [], []), x))
    else if pre [33, 45, 45] (c :: r) then some ((cutS [45, 45, 62] r).map fun x => (none, x))
    else if c = 33 ∨ c = 63 ∨ c = 47 then some ((cutS [62] (c :: r)).map fun x => (none, x))
    else none := rfl
theorem tagP_len (t : List UInt8) (o : Option Tok) (r : List UInt8) (h : tagP t = some (some (o, r))) : r.length ≤ t.length := by
  unfold tagP at h
  split at h
  · cases h
  · rename_i c s
    have h1 := dw_len (p := tch) (c :: s)
    have h2 := dw_len (p := tch) s
    split at h
    · cases e : atP ((c :: s).dropWhile tch) [] with
      | none => rw [e] at h; simp at h
      | some x =>
        rw [e] at h
        simp only [Option.map_some, Option.some.injEq, Prod.mk.injEq] at h
        obtain ⟨_, rfl⟩ := h
        have := atF_len _ _ _ _ _ e
        simp only [List.length_cons] at *; omega
    split at h
    · cases e : cutS [62] (s.dropWhile tch) with
      | none => rw [e] at h; simp at h
      | some x =>
        rw [e] at h
        simp only [Option.map_some, Option.some.injEq, Prod.mk.injEq] at h
        obtain ⟨_, rfl⟩ := h
        have := cutS_len [62] (by simp) _ _ e
        simp only [List.length_cons] at *; omega
    split at h
    · cases e : cutS [45, 45, 62] s with
      | none => rw [e] at h; simp at h
      | some x =>
        rw [e] at h
        simp only [Option.map_some, Option.some.injEq, Prod.mk.injEq] at h
        obtain ⟨_, rfl⟩ := h
        have := cutS_len [45, 45, 62] (by simp) _ _ e
        simp only [List.length_cons] at *; omega
    split at h
    · cases e : cutS [62] (c :: s) with
      | none => rw [e] at h; simp at h
      | some x =>
        rw [e] at h
        simp only [Option.map_some, Option.some.injEq, Prod.mk.injEq] at h
        obtain ⟨_, rfl⟩ := h
        have := cutS_len [62] (by simp) _ _ e
        omega
    · cases h

/-- The text since the last tag, as a token. -/
def flsh (text : List UInt8) (out : List Tok) : List Tok := if (Tk text).1 = [] then out else out ++ [(1, [], [], (Tk text).1)]
def tkF : Nat → List UInt8 → List UInt8 → List Tok → List Tok
  | 0, _, text, out => flsh text out
  | _ + 1, [], text, out => flsh text out
  | k + 1, c :: r, text, out =>
    if c = 60 then match tagP r with
      | none => tkF k r (text ++ [60]) out
      | some none => flsh (text ++ 60 :: r) out
      | some (some (none, u)) => tkF k u text out
      | some (some (some t, u)) => if isNm t.2.1 then tkF k u [] (flsh text out ++ [t]) else tkF k u text out
    else tkF k r (text ++ [c]) out
def tkP (s text : List UInt8) (out : List Tok) : List Tok := tkF s.length s text out
/-- All tokens of a text. -/
def TokL (s : List UInt8) : List Tok := tkP s [] []
theorem tkF_two (k : Nat) : ∀ (j : Nat) (s text : List UInt8) (out : List Tok), s.length ≤ k → s.length ≤ j → tkF k s text out = tkF j s text out := by
  induction k with
  | zero =>
    intro j s text out h _
    obtain rfl := List.eq_nil_of_length_eq_zero (Nat.le_zero.1 h)
    cases j <;> rfl
  | succ k ih =>
    intro j s text out h h'
    cases s with
    | nil => cases j <;> rfl
    | cons c r =>
      cases j with
      | zero => simp at h'
      | succ j =>
        simp only [List.length_cons, Nat.add_le_add_iff_right] at h h'
        unfold tkF
        split
        · split
          · exact ih j _ _ _ h h'
          · rfl
          · rename_i u e
            have := tagP_len _ _ _ e
            exact ih j _ _ _ (by omega) (by omega)
          · rename_i t u e
            have := tagP_len _ _ _ e
            split <;> exact ih j _ _ _ (by omega) (by omega)
        · exact ih j _ _ _ h h'
theorem tkF_eq (k : Nat) (s text : List UInt8) (out : List Tok) (h : s.length ≤ k) : tkF k s text out = tkP s text out := tkF_two k _ s text out h (Nat.le_refl _)
theorem tkP_nil (text : List UInt8) (out : List Tok) : tkP [] text out = flsh text out := rfl
theorem tkP_plain (c : UInt8) (r text : List UInt8) (out : List Tok) (h : c ≠ 60) : tkP (c :: r) text out = tkP r (text ++ [c]) out := by
  conv => lhs; unfold tkP; rw [List.length_cons]; unfold tkF
  rw [if_neg h]; rfl
theorem tkP_run (p r text : List UInt8) (out : List Tok) (h : 60 ∉ p) : tkP (p ++ r) text out = tkP r (text ++ p) out := by
  induction p generalizing text with
  | nil => simp
  | cons c p ih =>
    simp only [List.mem_cons, not_or] at h
    rw [List.cons_append, tkP_plain _ _ _ _ (fun e => h.1 e.symm), ih _ h.2]; simp
theorem tkP_lone (r text : List UInt8) (out : List Tok) (h : tagP r = none) : tkP (60 :: r) text out = tkP r (text ++ [60]) out := by
  conv => lhs; unfold tkP; rw [List.length_cons]; unfold tkF
  rw [if_pos rfl, h]; rfl
theorem tkP_open (r text : List UInt8) (out : List Tok) (h : tagP r = some none) : tkP (60 :: r) text out = flsh (text ++ 60 :: r) out := by
  conv => lhs; unfold tkP; rw [List.length_cons]; unfold tkF
  rw [if_pos rfl, h]
theorem tkP_skip (r u text : List UInt8) (out : List Tok) (h : tagP r = some (some (none, u))) : tkP (60 :: r) text out = tkP u text out := by
  have := tagP_len _ _ _ h
  conv => lhs; unfold tkP; rw [List.length_cons]; unfold tkF
  rw [if_pos rfl, h]; exact tkF_eq _ _ _ _ this
theorem tkP_tag (r u text : List UInt8) (t : Tok) (out : List Tok) (h : tagP r = some (some (some t, u))) (hn : isNm t.2.1 = true) : tkP (60 :: r) text out = tkP u [] (flsh text out ++ [t]) := by
  have := tagP_len _ _ _ h
  conv => lhs; unfold tkP; rw [List.length_cons]; unfold tkF
  rw [if_pos rfl, h]; simp only [hn, if_true]; exact tkF_eq _ _ _ _ this
theorem tkP_tagno (r u text : List UInt8) (t : Tok) (out : List Tok) (h : tagP r = some (some (some t, u))) (hn : isNm t.2.1 = false) : tkP (60 :: r) text out = tkP u text out := by
  have := tagP_len _ _ _ h
  conv => lhs; unfold tkP; rw [List.length_cons]; unfold tkF
  rw [if_pos rfl, h]; simp only [hn, Bool.false_eq_true, if_false]; exact tkF_eq _ _ _ _ this

/-- What is wrong with attributes; with one token; with tokens. -/
def atEF : List Atr → List Atr → Int
  | _, [] => 0
  | p, a :: l => if isNm a.1 = false then 1 else if (p.any fun x => x.1 == a.1) then 6 else atEF (p ++ [a]) l
def atE (l : List Atr) : Int := atEF [] l
def tkE (t : Tok) : Int :=
  if t.1 < 1 ∨ 3 < t.1 then 7
  else if t.1 = 1 ∧ (t.2.1 ≠ [] ∨ t.2.2.1 ≠ [] ∨ t.2.2.2 = []) ∨ t.1 ≠ 1 ∧ t.2.2.2 ≠ [] ∨ t.1 = 3 ∧ t.2.2.1 ≠ [] then 1
  else if t.1 = 1 then 0 else if isNm t.2.1 = false then 1 else atE t.2.2.1
def tkEF : Int → List Tok → Int
  | _, [] => 0
  | k, t :: l => if tkE t ≠ 0 then tkE t else if t.1 = 1 ∧ k = 1 then 4 else tkEF t.1 l
/-- CheckTokens. -/
def ckE (l : List Tok) : Int := if 3000 < l.length then 2 else tkEF 0 l
/-- Attributes, a token, tokens as they are written. -/
def atW (l : List Atr) : List UInt8 := l.flatMap fun a => 32 :: a.1 ++ [61, 34] ++ PutL a.2 ++ [34]
def tkW (t : Tok) : List UInt8 := if t.1 = 1 then PutL t.2.2.2 else if t.1 = 2 then 60 :: t.2.1 ++ atW t.2.2.1 ++ [62] else if t.1 = 3 then [60, 47] ++ t.2.1 ++ [62] else []
def tksW (l : List Tok) : List UInt8 := l.flatMap tkW
end Go.Proofs.YtkacjnifhmgeiaaGreatDoor

namespace Go.Proofs.YtkacjnifhmgeiaaGreatDoor
open Go.RowKit

theorem isNm_ne {n : List UInt8} (h : isNm n = true) : n ≠ [] := by rintro rfl; simp [isNm] at h
/-- A node: its name (a text has none), attributes, text, kids. -/
inductive Nd where
  | mk (n : List UInt8) (a : List Atr) (x : List UInt8) (k : List Nd)
def Nd.n : Nd → List UInt8 | .mk n _ _ _ => n
def Nd.a : Nd → List Atr | .mk _ a _ _ => a
def Nd.x : Nd → List UInt8 | .mk _ _ x _ => x
def Nd.k : Nd → List Nd | .mk _ _ _ k => k
theorem Nd.ind {P : List Nd → Prop} (h0 : P []) (h1 : ∀ n a x k l, P k → P l → P (.mk n a x k :: l)) (l : List Nd) : P l :=
  Nd.rec_1 (motive_1 := fun d => P d.k) (motive_2 := P) (fun _ _ _ _ ih => ih) h0 (fun d l i1 i2 => by cases d; exact h1 _ _ _ _ _ i1 i2) l

abbrev Nm := List UInt8
def sP : Nm := [112]
def sLi : Nm := [108, 105]
def sUl : Nm := [117, 108]
def sOl : Nm := [111, 108]
def sBq : Nm := [98, 108, 111, 99, 107, 113, 117, 111, 116, 101]
def sBr : Nm := [98, 114]
def sHr : Nm := [104, 114]
def sImg : Nm := [105, 109, 103]
def emptyN (n : Nm) : Bool := decide (n = sBr) || decide (n = sHr) || decide (n = sImg)
def ulolN (n : Nm) : Bool := decide (n = sUl) || decide (n = sOl)
def wallN (n : Nm) : Bool := decide (n = sUl) || decide (n = sOl) || decide (n = sLi) || decide (n = sBq)
def blkN (n : Nm) : Bool := wallN n || decide (n = sP) || decide (n = sHr)
/-- Of names that stand in one another, the innermost first: how many stand about the innermost one of a name with none within it that stops. -/
def abv (nm : Nm) (stop : Nm → Bool) : List Nm → Option Nat
  | [] => none
  | x :: r => if x = nm then some r.length else if stop x then none else abv nm stop r
def cls1 (r : List Nm) (nm : Nm) : Nat := if blkN nm then (abv sP wallN r).getD r.length else r.length
/-- How many stay open where one opens. -/
def cls (r : List Nm) (nm : Nm) : Nat := if nm = sLi then (abv sLi ulolN (r.drop (r.length - cls1 r nm))).getD (cls1 r nm) else cls1 r nm

/-- A node behind others; texts side by side are one. -/
def pt (l : List Nd) (d : Nd) : List Nd :=
  match l.getLast? with
  | some (.mk [] a x k) => if d.n = [] then l.dropLast ++ [.mk [] a (x ++ d.x) k] else l ++ [d]
  | _ => l ++ [d]

/-- The builder: nodes of the whole; those that are open, the innermost first: name, attributes, nodes. -/
abbrev St := List Nd × List (Nm × List Atr × List Nd)
def put (s : St) (d : Nd) : St := match s with
  | (r, []) => (pt r d, [])
  | (r, (n, a, k) :: f) => (r, (n, a, pt k d) :: f)
def pop (s : St) : St := match s with
  | (r, []) => (r, [])
  | (r, (n, a, k) :: f) => put (r, f) (.mk n a [] k)
def pops : Nat → St → St
  | 0, s => s
  | j + 1, s => pops j (pop s)
def nms (s : St) : List Nm := s.2.map (·.1)
def opn (s : St) (n : Nm) (a : List Atr) : St :=
  if s.2.length = 8 then s else if emptyN n then put s (.mk n a [] []) else (s.1, (n, a, []) :: s.2)
def stp (s : St) (t : Tok) : St :=
  if t.1 = 1 then put s (.mk [] [] t.2.2.2 [])
  else if t.1 = 2 then opn (pops (s.2.length - cls (nms s) t.2.1) s) t.2.1 t.2.2.1
  else if t.1 = 3 then (match abv t.2.1 (fun _ => false) (nms s) with | some i => pops (s.2.length - i) s | none => s)
  else s
def fin (s : St) : List Nd := (pops s.2.length s).1
/-- The tree of tokens. -/
def ofM (l : List Tok) : List Nd := fin (l.foldl stp ([], []))

mutual
def fltN : Nd → List Tok
  | .mk n a x k => if n = [] then [(1, [], [], x)] else (2, n, a, []) :: (if emptyN n then [] else fltL k ++ [(3, n, [], [])])
/-- The tokens of a tree. -/
def fltL : List Nd → List Tok
  | [] => []
  | d :: l => fltN d ++ fltL l
end
mutual
def manyN (f : Nat) : Nd → Nat
  | .mk n _ _ k => if n = [] then 1 else match f with | 0 => 1 | f + 1 => 1 + manyL f k
def manyL (f : Nat) : List Nd → Nat
  | [] => 0
  | d :: l => manyN f d + manyL f l
end
mutual
def deepN (f : Nat) : Nd → Nat
  | .mk n _ _ k => if n = [] then 0 else match f with | 0 => 1 | f + 1 => 1 + deepL f k
def deepL (f : Nat) : List Nd → Nat
  | [] => 0
  | d :: l => max (deepN f d) (deepL f l)
end
/-- What is wrong with a node by itself. -/
def ndE (r : List Nm) : Nd → Int
  | .mk n a x k => if n = [] then (if x = [] ∨ a ≠ [] ∨ k ≠ [] then 1 else 0)
    else if x ≠ [] ∨ isNm n = false ∨ (emptyN n = true ∧ k ≠ []) then 1 else if atE a ≠ 0 then atE a else if cls r n < r.length then 4 else 0
mutual
def ckN (r : List Nm) (prev : Bool) : Nd → Int
  | .mk n a x k => if ndE r (.mk n a x k) ≠ 0 then ndE r (.mk n a x k) else if prev = true ∧ n = [] then 4 else ckL (n :: r) false k
/-- What is wrong with nodes that stand in such names. -/
def ckL (r : List Nm) (prev : Bool) : List Nd → Int
  | [] => 0
  | d :: l => if ckN r prev d ≠ 0 then ckN r prev d else ckL r (decide (d.n = [])) l
end
/-- CheckTree. -/
def ckT (l : List Nd) : Int := if 3000 < manyL 8 l ∨ 8 < deepL 8 l then 2 else ckL [] false l
mutual
def ntxN : Nd → List UInt8
  | .mk _ _ x k => x ++ ntxL k
def ntxL : List Nd → List UInt8
  | [] => []
  | d :: l => ntxN d ++ ntxL l
end
mutual
def insN (p li : Bool) : Nd → Bool
  | .mk n _ _ k => (decide (n = sP) && p || decide (n = sLi) && li) || insL (!(ulolN n || decide (n = sLi) || decide (n = sBq)) && (p || decide (n = sP))) (!ulolN n && (li || decide (n = sLi))) k
def insL (p li : Bool) : List Nd → Bool
  | [] => false
  | d :: l => insN p li d || insL p li l
end
mutual
def sameN : Nd → Nd → Bool
  | .mk n a x k, .mk n' a' x' k' => decide (n = n') && decide (x = x') && decide (a = a') && sameL k k'
def sameL : List Nd → List Nd → Bool
  | [], [] => true
  | d :: l, d' :: l' => sameN d d' && sameL l l'
  | _, _ => false
end
theorem pops_zero (s : St) : pops 0 s = s := rfl
theorem pops_succ (j : Nat) (s : St) : pops (j + 1) s = pops j (pop s) := rfl
theorem put_len (s : St) (d : Nd) : (put s d).2.length = s.2.length := by
  unfold put; split <;> simp
theorem put_nms (s : St) (d : Nd) : nms (put s d) = nms s := by
  unfold put nms; split <;> simp
theorem pop_nms (s : St) : nms (pop s) = (nms s).drop 1 := by
  unfold pop
  split
  · rfl
  · rw [put_nms]; simp [nms]
theorem pops_nms (j : Nat) : ∀ s : St, nms (pops j s) = (nms s).drop j := by
  induction j with
  | zero => intro s; rfl
  | succ j ih => intro s; rw [pops_succ, ih, pop_nms, List.drop_drop, Nat.add_comm]
theorem nms_len (s : St) : (nms s).length = s.2.length := by simp [nms]
theorem pops_add (i j : Nat) : ∀ s : St, pops (i + j) s = pops j (pops i s) := by
  induction i with
  | zero => intro s; simp [pops_zero]
  | succ i ih => intro s; rw [Nat.succ_add, pops_succ, pops_succ, ih]
theorem pops_len (j : Nat) (s : St) : (pops j s).2.length = s.2.length - j := by
  rw [← nms_len, pops_nms, List.length_drop, nms_len]
theorem fin_pops (j : Nat) (s : St) (h : j ≤ s.2.length) : fin (pops j s) = fin s := by
  unfold fin
  rw [pops_len, ← pops_add, Nat.add_sub_cancel' h]
/-- The nodes of the innermost one are these. -/
def setK (s : St) (o : List Nd) : St := match s with
  | (_, []) => (o, [])
  | (r, (n, a, _) :: f) => (r, (n, a, o) :: f)
theorem put_setK (s : St) (o : List Nd) (d : Nd) : put (setK s o) d = setK s (pt o d) := by
  unfold setK; split <;> rfl
theorem setK_nms (s : St) (o : List Nd) : nms (setK s o) = nms s := by
  unfold setK nms; split <;> simp
theorem setK_len (s : St) (o : List Nd) : (setK s o).2.length = s.2.length := by rw [← nms_len, setK_nms, nms_len]
theorem pt_el (o : List Nd) (d : Nd) (h : d.n ≠ []) : pt o d = o ++ [d] := by
  unfold pt
  split
  · rw [if_neg h]
  · rfl
theorem abv_lt (nm : Nm) (stop : Nm → Bool) : ∀ (r : List Nm) (i : Nat), abv nm stop r = some i → i < r.length := by
  intro r
  induction r with
  | nil => intro i h; simp [abv] at h
  | cons x r ih =>
    intro i h
    unfold abv at h
    split at h
    · cases h; simp
    · split at h
      · cases h
      · have := ih i h; simp; omega
/-- What stands inside the one that is found: it is that name, and no more. -/
theorem abv_drop (nm : Nm) (stop : Nm → Bool) : ∀ (r : List Nm) (i : Nat), abv nm stop r = some i → ∃ p, r = p ++ nm :: r.drop (r.length - i) := by
  intro r
  induction r with
  | nil => intro i h; simp [abv] at h
  | cons x r ih =>
    intro i h
    have hlt := abv_lt nm stop _ i h
    unfold abv at h
    split at h
    · rename_i e; subst e
      cases h
      refine ⟨[], ?_⟩
      rw [List.length_cons, Nat.add_sub_cancel_left]; rfl
    · split at h
      · cases h
      · obtain ⟨p, hp⟩ := ih i h
        have h2 := abv_lt nm stop _ i h
        refine ⟨x :: p, ?_⟩
        rw [List.length_cons, show r.length + 1 - i = (r.length - i) + 1 by omega, List.drop_succ_cons, List.cons_append, ← hp]
theorem cls1_le (r : List Nm) (nm : Nm) : cls1 r nm ≤ r.length := by
  unfold cls1
  split
  · cases e : abv sP wallN r with
    | none => simp
    | some i => have := abv_lt _ _ _ _ e; simp; omega
  · exact Nat.le_refl _
theorem cls_le1 (r : List Nm) (nm : Nm) : cls r nm ≤ cls1 r nm := by
  unfold cls
  split
  · cases e : abv sLi ulolN (r.drop (r.length - cls1 r nm)) with
    | none => simp
    | some i => have := abv_lt _ _ _ _ e; have := cls1_le r nm; simp at *; omega
  · exact Nat.le_refl _
theorem cls_le (r : List Nm) (nm : Nm) : cls r nm ≤ r.length := Nat.le_trans (cls_le1 r nm) (cls1_le r nm)
/-- Names that may stand in one another. -/
def Good : List Nm → Prop
  | [] => True
  | n :: r => cls r n = r.length ∧ Good r
theorem Good.drop {r : List Nm} (h : Good r) (j : Nat) : Good (r.drop j) := by
  induction r generalizing j with
  | nil => simp [Good]
  | cons x r ih =>
    cases j with
    | zero => exact h
    | succ j => exact ih h.2 j
theorem Good.mid {p r : List Nm} {n : Nm} (h : Good (p ++ n :: r)) : cls r n = r.length := by
  have := h.drop p.length
  rw [List.drop_left] at this
  exact this.1
theorem cls_p_none {r : List Nm} (h : cls r sP = r.length) : abv sP wallN r = none := by
  cases e : abv sP wallN r with
  | none => rfl
  | some i =>
    have h1 := abv_lt _ _ _ _ e
    have h2 := cls_le1 r sP
    have h3 : cls1 r sP = i := by unfold cls1; rw [e]; simp [blkN]
    omega
theorem cls1_full {r : List Nm} {nm : Nm} (h : cls r nm = r.length) : cls1 r nm = r.length := by
  have := cls_le1 r nm; have := cls1_le r nm; omega
theorem cls1_idem (r : List Nm) (nm : Nm) (hg : Good r) : cls1 (r.drop (r.length - cls1 r nm)) nm = cls1 r nm := by
  have hle := cls1_le r nm
  by_cases hb : blkN nm = true
  · cases e : abv sP wallN r with
    | none =>
      have h1 : cls1 r nm = r.length := by unfold cls1; rw [if_pos hb, e]; rfl
      rw [h1, Nat.sub_self, List.drop_zero, h1]
    | some i =>
      have h1 : cls1 r nm = i := by unfold cls1; rw [if_pos hb, e]; rfl
      obtain ⟨p, hp⟩ := abv_drop _ _ _ _ e
      have hi := abv_lt _ _ _ _ e
      rw [h1] at *
      rw [hp] at hg
      have hn := cls_p_none hg.mid
      unfold cls1
      rw [if_pos hb, hn]
      simp; omega
  · have h1 : cls1 r nm = r.length := by unfold cls1; rw [if_neg hb]
    rw [h1, Nat.sub_self, List.drop_zero, h1]
theorem cls_idem (r : List Nm) (nm : Nm) (hg : Good r) : cls (r.drop (r.length - cls r nm)) nm = cls r nm := by
  have hle := cls_le r nm
  have hle1 := cls1_le r nm
  have hid := cls1_idem r nm hg
  by_cases hl : nm = sLi
  · cases e : abv sLi ulolN (r.drop (r.length - cls1 r nm)) with
    | none =>
      have h1 : cls r nm = cls1 r nm := by unfold cls; rw [if_pos hl, e]; rfl
      rw [h1]
      conv => lhs; unfold cls
      rw [if_pos hl, hid]
      have hlen : (r.drop (r.length - cls1 r nm)).length = cls1 r nm := by simp; omega
      rw [hlen, Nat.sub_self, List.drop_zero, e]; rfl
    | some i =>
      have h1 : cls r nm = i := by unfold cls; rw [if_pos hl, e]; rfl
      have hi := abv_lt _ _ _ _ e
      have hlen : (r.drop (r.length - cls1 r nm)).length = cls1 r nm := by simp; omega
      rw [hlen] at hi
      obtain ⟨p, hp⟩ := abv_drop _ _ _ _ e
      rw [hlen, List.drop_drop, show r.length - cls1 r nm + (cls1 r nm - i) = r.length - i by omega] at hp
      have hg1 := hg.drop (r.length - cls1 r nm)
      rw [hp] at hg1
      have := hg1.mid
      rw [h1, hl, this]
      simp; omega
  · have h1 : cls r nm = cls1 r nm := by unfold cls; rw [if_neg hl]
    rw [h1]
    conv => lhs; unfold cls
    rw [if_neg hl, hid]

/-- The reference's way: nodes in names, from tokens on; what is left, and how many names stay open. -/
def bld : Nat → List Nm → List Tok → List Nd → List Nd × List Tok × Nat
  | 0, r, l, out => (out, l, r.length)
  | _ + 1, r, [], out => (out, [], r.length)
  | k + 1, r, t :: l, out =>
    if t.1 = 1 then bld k r l (pt out (.mk [] [] t.2.2.2 []))
    else if t.1 = 3 then (match abv t.2.1 (fun _ => false) r with | some i => (out, l, i) | none => bld k r l out)
    else if cls r t.2.1 < r.length then (out, t :: l, cls r t.2.1)
    else if r.length = 8 then bld k r l out
    else if emptyN t.2.1 = true then bld k r l (out ++ [.mk t.2.1 t.2.2.1 [] []])
    else if (bld k (t.2.1 :: r) l []).2.2 < r.length then (out ++ [.mk t.2.1 t.2.2.1 [] (bld k (t.2.1 :: r) l []).1], (bld k (t.2.1 :: r) l []).2.1, (bld k (t.2.1 :: r) l []).2.2)
    else bld k r (bld k (t.2.1 :: r) l []).2.1 (out ++ [.mk t.2.1 t.2.2.1 [] (bld k (t.2.1 :: r) l []).1])
/-- Tokens that may come. -/
def TOk (t : Tok) : Prop := (t.1 = 1 ∨ t.1 = 2 ∨ t.1 = 3) ∧ (t.1 = 2 → t.2.1 ≠ [])
theorem bld_run (k : Nat) : ∀ (r : List Nm) (l : List Tok) (out : List Nd), l.length ≤ k → Good r → (∀ t ∈ l, TOk t) →
    (bld k r l out).2.1.length ≤ l.length ∧ (bld k r l out).2.2 ≤ r.length ∧ ((bld k r l out).2.2 = r.length → (bld k r l out).2.1 = []) ∧ (∀ t ∈ (bld k r l out).2.1, TOk t) ∧
    ∀ s : St, nms s = r → fin (l.foldl stp (setK s out)) = fin ((bld k r l out).2.1.foldl stp (pops (r.length - (bld k r l out).2.2) (setK s (bld k r l out).1))) := by
  induction k with
  | zero =>
    intro r l out hl hg ht
    obtain rfl := List.eq_nil_of_length_eq_zero (Nat.le_zero.1 hl)
    simp [bld, pops_zero]
  | succ k ih =>
    intro r l out hl hg ht
    cases l with
    | nil => simp [bld, pops_zero]
    | cons t l =>
      simp only [List.length_cons, Nat.add_le_add_iff_right] at hl
      obtain ⟨hk, hn⟩ := ht t (by simp)
      have ht' : ∀ u ∈ l, TOk u := fun u hu => ht u (by simp [hu])
      unfold bld
      by_cases h1 : t.1 = 1
      · rw [if_pos h1]
        obtain ⟨a, b, c, d, e⟩ := ih r l (pt out (.mk [] [] t.2.2.2 [])) hl hg ht'
        refine ⟨by simp; omega, b, c, d, fun s hs => ?_⟩
        rw [← e s hs, List.foldl_cons]
        congr 2
        unfold stp; rw [if_pos h1, put_setK]
      rw [if_neg h1]
      by_cases h3 : t.1 = 3
      · rw [if_pos h3]
        cases e3 : abv t.2.1 (fun _ => false) r with
        | some i =>
          have hi := abv_lt _ _ _ _ e3
          simp only []
          refine ⟨by simp, by omega, fun h => by omega, ht', fun s hs => ?_⟩
          rw [List.foldl_cons]
          congr 2
          unfold stp; rw [if_neg h1, if_neg (by omega), if_pos h3, setK_nms, hs, e3]
          simp only [setK_len]
          rw [← nms_len, hs]
        | none =>
          simp only []
          obtain ⟨a, b, c, d, e⟩ := ih r l out hl hg ht'
          refine ⟨by simp; omega, b, c, d, fun s hs => ?_⟩
          rw [← e s hs, List.foldl_cons]
          congr 2
          unfold stp; rw [if_neg h1, if_neg (by omega), if_pos h3, setK_nms, hs, e3]
      rw [if_neg h3]
      have h2 : t.1 = 2 := by omega
      by_cases hc : cls r t.2.1 < r.length
      · rw [if_pos hc]
        refine ⟨by simp, by simp; omega, fun h => by simp at h; omega, ht, fun s hs => ?_⟩
        simp only [List.foldl_cons]
        congr 2
        have hsl : s.2.length = r.length := by rw [← nms_len, hs]
        unfold stp
        rw [if_neg h1, if_pos h2, if_neg h1, if_pos h2]
        have hid := cls_idem r t.2.1 hg
        have e1 : nms (pops (r.length - cls r t.2.1) (setK s out)) = r.drop (r.length - cls r t.2.1) := by rw [pops_nms, setK_nms, hs]
        have e2 : (pops (r.length - cls r t.2.1) (setK s out)).2.length = cls r t.2.1 := by rw [pops_len, setK_len, hsl]; omega
        rw [e1, e2, hid, Nat.sub_self, pops_zero, setK_nms, hs, setK_len, hsl]
      rw [if_neg hc]
      have hce : cls r t.2.1 = r.length := by have := cls_le r t.2.1; omega
      have hst : ∀ s : St, nms s = r → stp (setK s out) t = opn (setK s out) t.2.1 t.2.2.1 := by
        intro s hs
        unfold stp
        rw [if_neg h1, if_pos h2, setK_nms, hs, hce, setK_len, ← nms_len, hs, Nat.sub_self, pops_zero]
      by_cases h8 : r.length = 8
      · rw [if_pos h8]
        obtain ⟨a, b, c, d, e⟩ := ih r l out hl hg ht'
        refine ⟨by simp; omega, b, c, d, fun s hs => ?_⟩
        rw [← e s hs, List.foldl_cons, hst s hs]
        congr 2
        unfold opn; rw [if_pos (by rw [setK_len, ← nms_len, hs, h8])]
      rw [if_neg h8]
      have ho8 : ∀ s : St, nms s = r → ¬ (setK s out).2.length = 8 := by intro s hs; rw [setK_len, ← nms_len, hs]; exact h8
      by_cases hem : emptyN t.2.1 = true
      · rw [if_pos hem]
        obtain ⟨a, b, c, d, e⟩ := ih r l (out ++ [.mk t.2.1 t.2.2.1 [] []]) hl hg ht'
        refine ⟨by simp; omega, b, c, d, fun s hs => ?_⟩
        rw [← e s hs, List.foldl_cons, hst s hs]
        congr 2
        unfold opn; rw [if_neg (ho8 s hs), if_pos hem, put_setK, pt_el _ _ (by exact hn h2)]
      rw [if_neg hem]
      obtain ⟨a, b, c, d, e⟩ := ih (t.2.1 :: r) l [] hl ⟨hce, hg⟩ ht'
      obtain ⟨q, hq⟩ : ∃ q, q = bld k (t.2.1 :: r) l [] := ⟨_, rfl⟩
      rw [← hq] at a b c d e ⊢
      have hop : ∀ s : St, nms s = r → opn (setK s out) t.2.1 t.2.2.1 = setK ((setK s out).1, (t.2.1, t.2.2.1, []) :: (setK s out).2) [] := by
        intro s hs
        unfold opn; rw [if_neg (ho8 s hs), if_neg hem]; rfl
      have hnm : ∀ s : St, nms s = r → nms ((setK s out).1, (t.2.1, t.2.2.1, []) :: (setK s out).2) = t.2.1 :: r := by
        intro s hs
        have := setK_nms s out
        rw [hs] at this
        simp only [nms, List.map_cons] at this ⊢
        rw [this]
      have hpop : ∀ s : St, nms s = r → ∀ (v : List Nd), pop (setK ((setK s out).1, (t.2.1, t.2.2.1, []) :: (setK s out).2) v) = setK s (out ++ [.mk t.2.1 t.2.2.1 [] v]) := by
        intro s hs v
        show put ((setK s out).1, (setK s out).2) _ = _
        rw [show ((setK s out).1, (setK s out).2) = setK s out from rfl, put_setK, pt_el _ _ (by exact hn h2)]
      simp only [List.length_cons] at b c e
      by_cases hlt : q.2.2 < r.length
      · rw [if_pos hlt]
        refine ⟨by simp; omega, by simp; omega, fun h => by simp at h; omega, d, fun s hs => ?_⟩
        rw [List.foldl_cons, hst s hs, hop s hs, e _ (hnm s hs)]
        congr 2
        rw [show r.length + 1 - q.2.2 = (r.length - q.2.2) + 1 by omega, pops_succ, hpop s hs]
      · rw [if_neg hlt]
        obtain ⟨a', b', c', d', e'⟩ := ih r q.2.1 (out ++ [.mk t.2.1 t.2.2.1 [] q.1]) (by omega) hg d
        refine ⟨by simp; omega, b', c', d', fun s hs => ?_⟩
        rw [← e' s hs, List.foldl_cons, hst s hs, hop s hs, e _ (hnm s hs)]
        by_cases hfull : q.2.2 = r.length + 1
        · have := c hfull
          rw [this, hfull, Nat.sub_self, pops_zero]
          simp only [List.foldl_nil]
          rw [← hpop s hs, ← fin_pops 1 _ (by simp [setK])]
          rfl
        · have : q.2.2 = r.length := by omega
          congr 2
          rw [this, show r.length + 1 - r.length = 0 + 1 by omega, pops_succ, pops_zero, hpop s hs]
/-- The builder answers as the reference. -/
theorem ofM_bld (l : List Tok) (ht : ∀ t ∈ l, TOk t) (k : Nat) (hk : l.length ≤ k) : (bld k [] l []).1 = ofM l := by
  obtain ⟨a, b, c, d, e⟩ := bld_run k [] l [] hk trivial ht
  have h0 : (bld k [] l []).2.2 = 0 := by simpa using b
  have := e ([], []) rfl
  rw [c (by rw [h0]; rfl), h0] at this
  unfold ofM
  rw [show (([], []) : St) = setK ([], []) [] from rfl, this]
  rfl
end Go.Proofs.YtkacjnifhmgeiaaGreatDoor

namespace Go.Proofs.YtkacjnifhmgeiaaGreatDoor
open Go.RowKit

/-- White bytes of documents; bytes of a title. -/
def blk (c : UInt8) : Bool := decide (c.toNat = 9) || decide (c.toNat = 10) || decide (c.toNat = 13) || decide (c.toNat = 32)
def tiB1 (c : UInt8) : Bool := ltr c || decide (c.toNat = 95)
def tiB (c : UInt8) : Bool := tiB1 c || dgt c || decide (c.toNat = 45) || decide (c.toNat = 46) || decide (c.toNat = 58)
/-- A title. -/
def isTi : List UInt8 → Bool
  | [] => false
  | c :: r => tiB1 c && r.all tiB && decide (r.length ≤ 19)
/-- What stands ahead of the next such text, and behind it. -/
def toS (p : List UInt8) (t : List UInt8) : Option (List UInt8 × List UInt8) := (cutS p t).map fun r => (t.take (t.length - r.length - p.length), r)
def wsX (t : List UInt8) : List UInt8 := t.dropWhile blk
def sCom : List UInt8 := [60, 33, 45, 45]
def sComE : List UInt8 := [45, 45, 62]
def sPi : List UInt8 := [60, 63]
def sPiE : List UInt8 := [63, 62]
def sCd : List UInt8 := [60, 33, 91, 67, 68, 65, 84, 65, 91]
def sCdE : List UInt8 := [93, 93, 62]
/-- A comment, or what begins with <?: it is passed; none: there is none; an error. -/
def asX (t : List UInt8) : Except Int (Option (List UInt8)) :=
  if pre sCom t then (match cutS sComE (t.drop 4) with | some r => .ok (some r) | none => .error 1)
  else if pre sPi t then (match cutS sPiE (t.drop 2) with | some r => .ok (some r) | none => .error 1)
  else .ok none
def miF : Nat → List UInt8 → Except Int (List UInt8)
  | 0, t => .ok t
  | k + 1, t => if (wsX t).length < t.length then miF k (wsX t) else match asX t with
    | .error e => .error e
    | .ok none => .ok t
    | .ok (some r) => miF k r
def miX (t : List UInt8) : Except Int (List UInt8) := miF t.length t
/-- Bytes of a title, and what stands behind them. -/
def tiS : List UInt8 → List UInt8 × List UInt8
  | [] => ([], [])
  | c :: r => if tiB1 c then (c :: r.takeWhile tiB, r.dropWhile tiB) else ([], c :: r)
def tiX (t : List UInt8) : Except Int (List UInt8 × List UInt8) := if isTi (tiS t).1 then .ok (tiS t) else .error 1
def needX (p t : List UInt8) : Except Int (List UInt8) := if pre p t then .ok (t.drop p.length) else .error 1
/-- What is wrong with attributes. -/
def atXF : List Atr → List Atr → Int
  | _, [] => 0
  | p, a :: l => if isTi a.1 = false then 1 else if (p.any fun x => x.1 == a.1) then 6 else atXF (p ++ [a]) l
def atX (l : List Atr) : Int := atXF [] l
/-- A value behind a title: =, and a text in quotes. -/
def vaX (t : List UInt8) : Except Int (List UInt8 × List UInt8) :=
  match needX [61] (wsX t) with
  | .error e => .error e
  | .ok t1 =>
    let q : UInt8 := if pre [39] (wsX t1) then 39 else 34
    match needX [q] (wsX t1) with
    | .error e => .error e
    | .ok t2 => match toS [q] t2 with
      | none => .error 1
      | some (v, r) => if 60 ∈ v then .error 1 else if (Tk v).2 then .ok ((Tk v).1, r) else .error 1
def asF : Nat → List UInt8 → List Atr → Except Int (List Atr × List UInt8)
  | 0, t, out => .ok (out, t)
  | k + 1, t, out =>
    if (wsX t).length < t.length ∧ ((wsX t).head?.map tiB1).getD false = true then
      match tiX (wsX t) with
      | .error e => .error e
      | .ok (n, t1) => match vaX t1 with
        | .error e => .error e
        | .ok (v, r) => if atX (out ++ [(n, v)]) ≠ 0 then .error 6 else asF k r (out ++ [(n, v)])
    else .ok (out, wsX t)
def atrX (t : List UInt8) : Except Int (List Atr × List UInt8) := asF t.length t []
/-- A text behind nodes. -/
def addT (l : List Nd) (s : List UInt8) : List Nd := if s = [] then l else pt l (.mk [] [] s [])
mutual
/-- An element, so deep. -/
def elF : Nat → Nat → List UInt8 → Except Int (Nd × List UInt8)
  | 0, _, _ => .error 1
  | k + 1, deep, t => match needX [60] t with
    | .error e => .error e
    | .ok t0 => match tiX t0 with
      | .error e => .error e
      | .ok (n, t1) => if 8 < deep then .error 2 else match atrX t1 with
        | .error e => .error e
        | .ok (a, t2) => if pre [47, 62] t2 then .ok (.mk n a [] [], t2.drop 2) else match needX [62] t2 with
          | .error e => .error e
          | .ok t3 => match kiF k deep t3 [] with
            | .error e => .error e
            | .ok (l, t4) => match tiX t4 with
              | .error e => .error e
              | .ok (m, t5) => if m ≠ n then .error 4 else match needX [62] (wsX t5) with
                | .error e => .error e
                | .ok t6 => .ok (.mk n a [] l, t6)
/-- Kids, up to </, which is passed. -/
def kiF : Nat → Nat → List UInt8 → List Nd → Except Int (List Nd × List UInt8)
  | 0, _, _, _ => .error 1
  | k + 1, deep, t, out =>
    if pre [60, 47] t then .ok (out, t.drop 2)
    else if pre sCd t then (match toS sCdE (t.drop 9) with
      | none => .error 1
      | some (v, r) => kiF k deep r (addT out v))
    else match asX t with
      | .error e => .error e
      | .ok (some r) => kiF k deep r out
      | .ok none =>
        if pre [60] t then (match elF k (deep + 1) t with
          | .error e => .error e
          | .ok (d, r) => kiF k deep r (out ++ [d]))
        else if (Tk (t.takeWhile (· != 60))).2 = false then .error 1
        else if t.dropWhile (· != 60) = [] then .error 1
        else kiF k deep (t.dropWhile (· != 60)) (addT out (Tk (t.takeWhile (· != 60))).1)
end
/-- A document. -/
def XmP (s : List UInt8) : Except Int Nd := match miX s with
  | .error e => .error e
  | .ok t => match elF (2 * t.length + 2) 1 t with
    | .error e => .error e
    | .ok (d, t1) => match miX t1 with
      | .error e => .error e
      | .ok t2 => if t2 = [] then .ok d else .error 1
mutual
def wrX : Nd → List UInt8
  | .mk n a x k => if n = [] then PutL x else 60 :: n ++ atW a ++ (if k = [] then [47, 62] else 62 :: wrL k ++ [60, 47] ++ n ++ [62])
/-- Nodes as they are written. -/
def wrL : List Nd → List UInt8
  | [] => []
  | d :: l => wrX d ++ wrL l
end
def nxE : Nd → Int
  | .mk n a x k => if n = [] then (if x = [] ∨ a ≠ [] ∨ k ≠ [] then 1 else 0) else if x ≠ [] ∨ isTi n = false then 1 else atX a
mutual
def cxN (prev : Bool) : Nd → Int
  | .mk n a x k => if nxE (.mk n a x k) ≠ 0 then nxE (.mk n a x k) else if cxL false k ≠ 0 then cxL false k else if prev = true ∧ n = [] then 4 else 0
def cxL (prev : Bool) : List Nd → Int
  | [] => 0
  | d :: l => if cxN prev d ≠ 0 then cxN prev d else cxL (decide (d.n = [])) l
end
end Go.Proofs.YtkacjnifhmgeiaaGreatDoor

namespace Go.Proofs.YtkacjnifhmgeiaaGreatDoor
open Go.RowKit

mutual
/-- How deep nodes stand. -/
def dpN : Nd → Nat
  | .mk n _ _ k => if n = [] then 0 else 1 + dpL k
def dpL : List Nd → Nat
  | [] => 0
  | d :: l => max (dpN d) (dpL l)
end
mutual
def cntN : Nd → Nat
  | .mk _ _ _ k => 1 + cntL k
def cntL : List Nd → Nat
  | [] => 0
  | d :: l => cntN d + cntL l
end
theorem dp_of (l : List Nd) : ∀ f, deepL f l ≤ f → dpL l ≤ f := by
  induction l using Nd.ind with
  | h0 => intro f _; simp [dpL]
  | h1 n a x k l ik il =>
    intro f h
    simp only [deepL, dpL, Nat.max_le, deepN, dpN] at h ⊢
    refine ⟨?_, il f h.2⟩
    split
    · omega
    · rename_i hn
      rw [if_neg hn] at h
      cases f with
      | zero => simp at h
      | succ f => have := ik f (by have := h.1; simp only [] at this; omega); omega
theorem deep_le (l : List Nd) : ∀ f, deepL f l ≤ dpL l := by
  induction l using Nd.ind with
  | h0 => intro f; simp [deepL]
  | h1 n a x k l ik il =>
    intro f
    have := il f
    simp only [deepL, dpL, deepN, dpN]
    by_cases hn : n = []
    · simp only [if_pos hn]; omega
    · simp only [if_neg hn]
      cases f with
      | zero => simp only []; omega
      | succ f => have := ik f; simp only []; omega
theorem many_le (l : List Nd) : ∀ f, manyL f l ≤ cntL l := by
  induction l using Nd.ind with
  | h0 => intro f; simp [manyL]
  | h1 n a x k l ik il =>
    intro f
    have := il f
    simp only [manyL, cntL, manyN, cntN]
    by_cases hn : n = []
    · simp only [if_pos hn]; omega
    · simp only [if_neg hn]
      cases f with
      | zero => simp only []; omega
      | succ f => have := ik f; simp only []; omega
/-- The last of nodes is a text. -/
def lastT (o : List Nd) : Bool := match o.getLast? with | some d => decide (d.n = []) | none => false
theorem lastT_snoc (o : List Nd) (d : Nd) : lastT (o ++ [d]) = decide (d.n = []) := by simp [lastT]
theorem pt_no (o : List Nd) (d : Nd) (h : lastT o = false) : pt o d = o ++ [d] := by
  unfold pt
  unfold lastT at h
  split
  · rename_i a x k e
    rw [e] at h; simp [Nd.n] at h
  · rfl
theorem ckL_cons {r : List Nm} {p : Bool} {d : Nd} {l : List Nd} (h : ckL r p (d :: l) = 0) : ckN r p d = 0 ∧ ckL r (decide (d.n = [])) l = 0 := by
  simp only [ckL] at h
  split at h
  · rename_i a; exact absurd h a
  · rename_i a; exact ⟨Decidable.not_not.1 a, h⟩
theorem ckN_mk {r : List Nm} {p : Bool} {n : Nm} {a : List Atr} {x : List UInt8} {k : List Nd} (h : ckN r p (.mk n a x k) = 0) : ndE r (.mk n a x k) = 0 ∧ ¬ (p = true ∧ n = []) ∧ ckL (n :: r) false k = 0 := by
  simp only [ckN] at h
  split at h
  · rename_i a; exact absurd h a
  · rename_i a
    split at h
    · simp at h
    · rename_i b; exact ⟨Decidable.not_not.1 a, b, h⟩
theorem ndE_el {r : List Nm} {n : Nm} {a : List Atr} {x : List UInt8} {k : List Nd} (h : ndE r (.mk n a x k) = 0) (hn : n ≠ []) : x = [] ∧ isNm n = true ∧ (emptyN n = true → k = []) ∧ atE a = 0 ∧ cls r n = r.length := by
  simp only [ndE, if_neg hn] at h
  split at h
  · simp at h
  rename_i h1
  split at h
  · rename_i h2; exact absurd h h2
  rename_i h2
  split at h
  · simp at h
  rename_i h3
  refine ⟨Decidable.not_not.1 (fun e => h1 (.inl e)), ?_, fun e => Decidable.byContradiction fun e2 => h1 (.inr (.inr ⟨e, e2⟩)), Decidable.not_not.1 h2, ?_⟩
  · cases e : isNm n
    · exact absurd (.inr (.inl e)) h1
    · rfl
  · have := cls_le r n; omega
theorem ndE_tx {r : List Nm} {a : List Atr} {x : List UInt8} {k : List Nd} (h : ndE r (.mk [] a x k) = 0) : x ≠ [] ∧ a = [] ∧ k = [] := by
  simp only [ndE, if_true] at h
  split at h
  · simp at h
  rename_i h1
  exact ⟨fun e => h1 (.inl e), Decidable.byContradiction fun e => h1 (.inr (.inl e)), Decidable.byContradiction fun e => h1 (.inr (.inr e))⟩
theorem abv_self (n : Nm) (r : List Nm) (stop : Nm → Bool) : abv n stop (n :: r) = some r.length := by simp [abv]
theorem flt_run (l : List Nd) : ∀ (r : List Nm) (p : Bool) (out : List Nd) (s : St), ckL r p l = 0 → nms s = r → r.length + dpL l ≤ 8 → lastT out = p →
    (fltL l).foldl stp (setK s out) = setK s (out ++ l) := by
  induction l using Nd.ind with
  | h0 => intro r p out s _ _ _ _; simp [fltL]
  | h1 n a x k l ik il =>
    intro r p out s hc hs hd hp
    obtain ⟨h1, h2⟩ := ckL_cons hc
    obtain ⟨h3, h4, h5⟩ := ckN_mk h1
    simp only [dpL, dpN] at hd
    simp only [fltL, fltN, List.foldl_append]
    have hsl : s.2.length = r.length := by rw [← nms_len, hs]
    have rest := il r (decide (n = [])) (out ++ [.mk n a x k]) s h2 hs (by omega) (by rw [lastT_snoc]; rfl)
    rw [show out ++ .mk n a x k :: l = out ++ [.mk n a x k] ++ l by simp, ← rest]
    congr 1
    by_cases hn : n = []
    · subst hn
      obtain ⟨g1, rfl, rfl⟩ := ndE_tx h3
      rw [if_pos rfl]
      simp only [List.foldl_cons, List.foldl_nil]
      unfold stp
      rw [if_pos rfl, put_setK, pt_no]
      rw [hp]
      cases p
      · rfl
      · exact absurd ⟨rfl, rfl⟩ h4
    · obtain ⟨rfl, g2, g3, g4, g5⟩ := ndE_el h3 hn
      rw [if_neg hn, List.foldl_cons]
      rw [if_neg hn] at hd
      have e1 : stp (setK s out) (2, n, a, []) = opn (setK s out) n a := by
        unfold stp
        rw [if_neg (show ¬ (2 : Int) = 1 by decide), if_pos rfl, setK_nms, hs]
        simp only [g5, setK_len, hsl, Nat.sub_self, pops_zero]
      rw [e1]
      unfold opn
      rw [if_neg (by rw [setK_len, hsl]; omega)]
      by_cases he : emptyN n = true
      · rw [if_pos he, if_pos he, g3 he]
        simp only [List.foldl_nil]
        rw [put_setK, pt_el _ _ (by exact hn)]
      · rw [if_neg he, if_neg he, List.foldl_append]
        have hnm : nms ((setK s out).1, (n, a, []) :: (setK s out).2) = n :: r := by
          have := setK_nms s out
          rw [hs] at this
          simp only [nms, List.map_cons] at this ⊢
          rw [this]
        have := ik (n :: r) false [] ((setK s out).1, (n, a, []) :: (setK s out).2) h5 hnm (by simp; omega) rfl
        rw [show ((setK s out).1, (n, a, []) :: (setK s out).2) = setK ((setK s out).1, (n, a, []) :: (setK s out).2) [] from rfl, this]
        simp only [List.foldl_cons, List.foldl_nil, List.nil_append]
        unfold stp
        rw [if_neg (show ¬ (3 : Int) = 1 by decide), if_neg (show ¬ (3 : Int) = 2 by decide), if_pos rfl, setK_nms, hnm]
        simp only [abv_self, setK_len, List.length_cons, hsl]
        rw [show r.length + 1 - r.length = 0 + 1 by omega, pops_succ, pops_zero]
        show put ((setK s out).1, (setK s out).2) _ = _
        rw [show ((setK s out).1, (setK s out).2) = setK s out from rfl, put_setK, pt_el _ _ (by exact hn)]
theorem ckT_zero {l : List Nd} (h : ckT l = 0) : manyL 8 l ≤ 3000 ∧ dpL l ≤ 8 ∧ ckL [] false l = 0 := by
  unfold ckT at h
  split at h
  · simp at h
  · rename_i h1; exact ⟨by omega, dp_of l 8 (by omega), h⟩
/-- Built of its own tokens a tree is the same. -/
theorem ofM_flt (l : List Nd) (h : ckT l = 0) : ofM (fltL l) = l := by
  obtain ⟨h1, h2, h3⟩ := ckT_zero h
  have := flt_run l [] false [] ([], []) h3 rfl (by simpa using h2) rfl
  unfold ofM
  rw [show (([], []) : St) = setK ([], []) [] from rfl, this]
  rfl
theorem tkE_tx {x : List UInt8} (h : x ≠ []) : tkE (1, [], [], x) = 0 := by simp [tkE, h]
theorem tkE_op {n : Nm} {a : List Atr} (h : isNm n = true) (ha : atE a = 0) : tkE (2, n, a, []) = 0 := by simp [tkE, h, ha]
theorem tkE_cl {n : Nm} (h : isNm n = true) : tkE (3, n, [], []) = 0 := by simp [tkE, h, atE, atEF]
theorem flt_ck (l : List Nd) : ∀ (r : List Nm) (p : Bool) (k : Int) (rest : List Tok), ckL r p l = 0 → (k = 1 → p = true) → (∀ j, tkEF j rest = 0) → tkEF k (fltL l ++ rest) = 0 := by
  induction l using Nd.ind with
  | h0 => intro r p k rest _ _ h; simp [fltL, h]
  | h1 n a x kk l ik il =>
    intro r p k rest hc hp hr
    obtain ⟨h1, h2⟩ := ckL_cons hc
    obtain ⟨h3, h4, h5⟩ := ckN_mk h1
    simp only [fltL, fltN, List.append_assoc]
    by_cases hn : n = []
    · subst hn
      obtain ⟨g1, rfl, rfl⟩ := ndE_tx h3
      have := il r _ 1 rest h2 (fun _ => by simp [Nd.n]) hr
      simp only [if_true, List.cons_append, List.nil_append, tkEF, tkE_tx g1]
      rw [if_neg (by simp), if_neg, this]
      rintro ⟨-, e⟩; exact h4 ⟨hp e, rfl⟩
    · obtain ⟨rfl, g2, g3, g4, g5⟩ := ndE_el h3 hn
      have hlast : ∀ j : Int, j ≠ 1 → tkEF j (fltL l ++ rest) = 0 := fun j hj => il r _ j rest h2 (fun e => absurd e hj) hr
      rw [if_neg hn]
      simp only [List.cons_append, tkEF, tkE_op g2 g4]
      rw [if_neg (by simp), if_neg (by simp)]
      by_cases he : emptyN n = true
      · rw [if_pos he]; exact hlast 2 (by decide)
      · rw [if_neg he, List.append_assoc]
        refine ik (n :: r) false 2 _ h5 (fun e => by simp at e) (fun j => ?_)
        simp only [List.cons_append, List.nil_append, tkEF, tkE_cl g2]
        rw [if_neg (by simp), if_neg (by simp)]
        exact hlast 3 (by decide)
/-- The tokens of a tree that is right are right. -/
theorem ckE_flt (l : List Nd) (h : ckT l = 0) (hl : (fltL l).length ≤ 3000) : ckE (fltL l) = 0 := by
  obtain ⟨h1, h2, h3⟩ := ckT_zero h
  unfold ckE
  rw [if_neg (by omega)]
  have := flt_ck l [] false 0 [] h3 (fun e => by simp at e) (fun j => rfl)
  simpa using this

/-- What a builder holds is right. -/
def IvF (m : Nat) : List (Nm × List Atr × List Nd) → Prop
  | [] => True
  | (n, a, k) :: f => n ≠ [] ∧ isNm n = true ∧ emptyN n = false ∧ atE a = 0 ∧ cls (f.map (·.1)) n = f.length ∧ ckL (n :: f.map (·.1)) false k = 0 ∧ f.length + 1 + dpL k ≤ 8 ∧ IvF m f
def Iv (s : St) : Prop := IvF 0 s.2 ∧ ckL [] false s.1 = 0 ∧ dpL s.1 ≤ 8
theorem ckL_app (r : List Nm) : ∀ (l : List Nd) (p : Bool) (m : List Nd), ckL r p l = 0 → ckL r (if l = [] then p else lastT l) m = 0 → ckL r p (l ++ m) = 0 := by
  intro l
  induction l with
  | nil => intro p m _ h; simpa using h
  | cons d l ih =>
    intro p m h hm
    obtain ⟨h1, h2⟩ := ckL_cons h
    simp only [List.cons_append, ckL]
    rw [if_neg (by simp [h1])]
    refine ih _ m h2 ?_
    rw [if_neg (by simp)] at hm
    split
    · rename_i e; subst e; simpa [lastT] using hm
    · rename_i e
      have : lastT (d :: l) = lastT l := by unfold lastT; rw [List.getLast?_cons]; cases e2 : l.getLast? with
        | none => simp at e2; exact absurd e2 e
        | some v => simp
      rw [← this]; exact hm
theorem ckL_init (r : List Nm) : ∀ (l : List Nd) (p : Bool) (d : Nd), ckL r p (l ++ [d]) = 0 → ckL r p l = 0 ∧ ckN r (if l = [] then p else lastT l) d = 0 := by
  intro l
  induction l with
  | nil => intro p d h; exact ⟨rfl, (ckL_cons h).1⟩
  | cons c l ih =>
    intro p d h
    obtain ⟨h1, h2⟩ := ckL_cons (l := l ++ [d]) h
    obtain ⟨g1, g2⟩ := ih _ d h2
    refine ⟨?_, ?_⟩
    · simp only [ckL]; rw [if_neg (by simp [h1])]; exact g1
    · rw [if_neg (by simp)]
      split at g2
      · rename_i e; subst e; simpa [lastT] using g2
      · rename_i e
        have : lastT (c :: l) = lastT l := by unfold lastT; rw [List.getLast?_cons]; cases e2 : l.getLast? with
          | none => simp at e2; exact absurd e2 e
          | some v => simp
        rw [this]; exact g2
theorem ckN_any {r : List Nm} {p q : Bool} {d : Nd} (h : ckN r p d = 0) (hq : q = true → d.n ≠ []) : ckN r q d = 0 := by
  cases d with
  | mk n a x k =>
    obtain ⟨h1, h2, h3⟩ := ckN_mk h
    simp only [ckN]
    rw [if_neg (by simp [h1]), if_neg (by rintro ⟨a, b⟩; exact hq a b), h3]
theorem pt_ck (r : List Nm) (l : List Nd) (d : Nd) (h : ckL r false l = 0) (hd : ckN r false d = 0) : ckL r false (pt l d) = 0 := by
  by_cases hT : lastT l = true ∧ d.n = []
  · obtain ⟨hT, hn⟩ := hT
    rcases List.eq_nil_or_concat l with rfl | ⟨o, c, rfl⟩
    · simp [lastT] at hT
    · rw [List.concat_eq_append] at *
      rw [lastT_snoc] at hT
      cases c with
      | mk n a x k =>
        obtain rfl : n = [] := of_decide_eq_true hT
        obtain ⟨g1, g2⟩ := ckL_init r o false _ h
        obtain ⟨g3, g4, g5⟩ := ckN_mk g2
        obtain ⟨g6, rfl, rfl⟩ := ndE_tx g3
        have e : pt (o ++ [.mk [] [] x []]) d = o ++ [.mk [] [] (x ++ d.x) []] := by
          unfold pt; simp [hn]
        rw [e]
        refine ckL_app r o false _ g1 ?_
        simp only [ckL, ckN, ndE]
        have g7 : ¬ (if o = [] then false else lastT o) = true := fun e => g4 ⟨e, rfl⟩
        simp [g6]
        intro e1 e2
        rw [if_neg e1] at g7
        exact absurd e2 g7
  · have hap : pt l d = l ++ [d] := by
      by_cases hL : lastT l = true
      · exact pt_el l d (fun e => hT ⟨hL, e⟩)
      · exact pt_no l d (by simpa using hL)
    rw [hap]
    refine ckL_app r l false _ h ?_
    have : ckN r (if l = [] then false else lastT l) d = 0 := by
      refine ckN_any hd (fun e => ?_)
      split at e
      · simp at e
      · exact fun e2 => hT ⟨e, e2⟩
    simp only [ckL]
    rw [if_neg (fun e => e this)]
theorem dp_app (l m : List Nd) : dpL (l ++ m) = max (dpL l) (dpL m) := by
  induction l with
  | nil => simp [dpL]
  | cons d l ih => simp only [List.cons_append, dpL, ih]; omega
theorem pt_dp (l : List Nd) (d : Nd) (m : Nat) (h : dpL l ≤ m) (hd : dpN d ≤ m) : dpL (pt l d) ≤ m := by
  unfold pt
  split
  · rename_i a x k e
    split
    · rcases List.eq_nil_or_concat l with rfl | ⟨o, c, rfl⟩
      · simp at e
      · simp only [List.concat_eq_append, List.getLast?_append, List.getLast?_singleton, Option.some_or, Option.some.injEq, List.dropLast_concat] at *
        rw [dp_app] at *
        simp [dpL, dpN] at *; omega
    · rw [dp_app]; simp only [dpL]; omega
  · rw [dp_app]; simp only [dpL]; omega
theorem iv_put {s : St} {d : Nd} (h : Iv s) (hd : ckN (nms s) false d = 0) (hp : s.2.length + dpN d ≤ 8) : Iv (put s d) := by
  obtain ⟨r, f⟩ := s
  cases f with
  | nil => exact ⟨trivial, pt_ck _ _ _ h.2.1 hd, pt_dp _ _ _ h.2.2 (by simpa using hp)⟩
  | cons c f =>
    obtain ⟨n, a, k⟩ := c
    obtain ⟨⟨h1, h2, h3, h4, h5, h6, h7, h8⟩, g⟩ := h
    simp only [List.length_cons] at hp
    refine ⟨⟨h1, h2, h3, h4, h5, pt_ck _ _ _ h6 hd, ?_, h8⟩, g⟩
    have := pt_dp k d (8 - (f.length + 1)) (by omega) (by omega)
    omega
theorem iv_pop {s : St} (h : Iv s) : Iv (pop s) := by
  obtain ⟨r, f⟩ := s
  cases f with
  | nil => exact h
  | cons c f =>
    obtain ⟨n, a, k⟩ := c
    obtain ⟨⟨h1, h2, h3, h4, h5, h6, h7, h8⟩, g⟩ := h
    refine iv_put (s := (r, f)) ⟨h8, g⟩ ?_ ?_
    · show ckN (f.map (·.1)) false _ = 0
      simp only [ckN, ndE, if_neg h1]
      rw [if_neg (show ¬ (([] : List UInt8) ≠ [] ∨ isNm n = false ∨ emptyN n = true ∧ k ≠ []) by simp [h2, h3])]
      simp [h4, h5, h6, h1]
    · simp only [dpN, if_neg h1]; omega
theorem iv_pops (j : Nat) : ∀ {s : St}, Iv s → Iv (pops j s) := by
  induction j with
  | zero => intro s h; exact h
  | succ j ih => intro s h; exact ih (iv_pop h)
theorem iv_good {m : Nat} : ∀ {f : List (Nm × List Atr × List Nd)}, IvF m f → Good (f.map (·.1)) := by
  intro f
  induction f with
  | nil => intro _; trivial
  | cons c f ih =>
    obtain ⟨n, a, k⟩ := c
    intro h
    exact ⟨by simpa using h.2.2.2.2.1, ih h.2.2.2.2.2.2.2⟩
theorem iv_len {m : Nat} {f : List (Nm × List Atr × List Nd)} (h : IvF m f) : f.length ≤ 8 := by
  cases f with
  | nil => simp
  | cons c f => obtain ⟨n, a, k⟩ := c; have := h.2.2.2.2.2.2.1; simp; omega
theorem tkE_zero {t : Tok} (h : tkE t = 0) : TOk t ∧ (t.1 = 1 → t.2.1 = [] ∧ t.2.2.1 = [] ∧ t.2.2.2 ≠ []) ∧ (t.1 ≠ 1 → t.2.2.2 = [] ∧ isNm t.2.1 = true ∧ t.2.1 ≠ [] ∧ atE t.2.2.1 = 0) := by
  unfold tkE at h
  split at h
  · simp at h
  rename_i h1
  split at h
  · simp at h
  rename_i h2
  have e1 : t.1 ≠ 1 → isNm t.2.1 = true ∧ atE t.2.2.1 = 0 := by
    intro e
    rw [if_neg e] at h
    split at h
    · simp at h
    · rename_i h3; exact ⟨by simpa using h3, h⟩
  refine ⟨⟨by omega, fun e => isNm_ne (e1 (by omega)).1⟩, fun e => ⟨?_, ?_, ?_⟩, fun e => ⟨?_, (e1 e).1, isNm_ne (e1 e).1, (e1 e).2⟩⟩
  · exact Decidable.byContradiction fun q => h2 (.inl ⟨e, .inl q⟩)
  · exact Decidable.byContradiction fun q => h2 (.inl ⟨e, .inr (.inl q)⟩)
  · exact fun q => h2 (.inl ⟨e, .inr (.inr q)⟩)
  · exact Decidable.byContradiction fun q => h2 (.inr (.inl ⟨e, q⟩))
theorem iv_stp {s : St} {t : Tok} (h : Iv s) (ht : tkE t = 0) : Iv (stp s t) := by
  obtain ⟨hk, h1, h2⟩ := tkE_zero ht
  unfold stp
  by_cases e1 : t.1 = 1
  · rw [if_pos e1]
    obtain ⟨g1, g2, g3⟩ := h1 e1
    refine iv_put h ?_ ?_
    · simp [ckN, ndE, g3, ckL]
    · simp only [dpN, if_true]; have := iv_len h.1; omega
  rw [if_neg e1]
  obtain ⟨g1, g2, g3, g4⟩ := h2 e1
  by_cases e2 : t.1 = 2
  · rw [if_pos e2]
    have hP := iv_pops (s.2.length - cls (nms s) t.2.1) h
    obtain ⟨S, hS⟩ : ∃ S, S = pops (s.2.length - cls (nms s) t.2.1) s := ⟨_, rfl⟩
    have hcl : cls (nms S) t.2.1 = S.2.length := by
      rw [hS, pops_nms, pops_len, ← nms_len, cls_idem (nms s) _ (iv_good h.1)]
      have := cls_le (nms s) t.2.1; omega
    rw [← hS] at hP ⊢
    unfold opn
    have hl := iv_len hP.1
    split
    · exact hP
    rename_i h8
    split
    · rename_i he
      refine iv_put hP ?_ ?_
      · simp only [ckN, ndE, if_neg g3]
        rw [if_neg (show ¬ (([] : List UInt8) ≠ [] ∨ isNm t.2.1 = false ∨ emptyN t.2.1 = true ∧ ([] : List Nd) ≠ []) by simp [g2])]
        rw [nms_len]
        simp [g4, hcl, ckL]
      · simp only [dpN, if_neg g3, dpL]; omega
    · rename_i he
      refine ⟨⟨g3, g2, by simpa using he, g4, hcl, rfl, by simp only [dpL]; omega, hP.1⟩, hP.2⟩
  rw [if_neg e2]
  split
  · split
    · exact iv_pops _ h
    · exact h
  · exact h
theorem iv_foldl (l : List Tok) : ∀ {s : St}, Iv s → (∀ t ∈ l, tkE t = 0) → Iv (l.foldl stp s) := by
  induction l with
  | nil => intro s h _; exact h
  | cons t l ih => intro s h ht; exact ih (iv_stp h (ht t (by simp))) (fun u hu => ht u (by simp [hu]))
theorem tkEF_each (l : List Tok) : ∀ k, tkEF k l = 0 → ∀ t ∈ l, tkE t = 0 := by
  induction l with
  | nil => intro k _ t ht; simp at ht
  | cons u l ih =>
    intro k h t ht
    simp only [tkEF] at h
    split at h
    · rename_i a; exact absurd h a
    rename_i a
    split at h
    · simp at h
    rcases List.mem_cons.1 ht with rfl | ht
    · exact Decidable.not_not.1 a
    · exact ih _ h t ht
theorem ckE_all {l : List Tok} (h : ckE l = 0) : l.length ≤ 3000 ∧ ∀ t ∈ l, tkE t = 0 := by
  unfold ckE at h
  split at h
  · simp at h
  · exact ⟨by omega, tkEF_each l 0 h⟩
theorem cnt_app (l m : List Nd) : cntL (l ++ m) = cntL l + cntL m := by
  induction l with
  | nil => simp [cntL]
  | cons d l ih => simp only [List.cons_append, cntL, ih]; omega
theorem pt_cnt (l : List Nd) (d : Nd) : cntL (pt l d) ≤ cntL l + cntN d := by
  unfold pt
  split
  · rename_i a x k e
    split
    · rcases List.eq_nil_or_concat l with rfl | ⟨o, c, rfl⟩
      · simp at e
      · simp only [List.concat_eq_append, List.getLast?_append, List.getLast?_singleton, Option.some_or, Option.some.injEq, List.dropLast_concat] at *
        subst e
        rw [cnt_app, cnt_app]
        simp only [cntL, cntN]; omega
    · rw [cnt_app]; simp [cntL]
  · rw [cnt_app]; simp [cntL]
/-- How many nodes a builder holds. -/
def cntF : List (Nm × List Atr × List Nd) → Nat
  | [] => 0
  | (_, _, k) :: f => 1 + cntL k + cntF f
def cntS (s : St) : Nat := cntL s.1 + cntF s.2
theorem put_cnt (s : St) (d : Nd) : cntS (put s d) ≤ cntS s + cntN d := by
  obtain ⟨r, f⟩ := s
  cases f with
  | nil => have := pt_cnt r d; simp only [put, cntS, cntF]; omega
  | cons c f => obtain ⟨n, a, k⟩ := c; have := pt_cnt k d; simp only [put, cntS, cntF]; omega
theorem pop_cnt (s : St) : cntS (pop s) ≤ cntS s := by
  obtain ⟨r, f⟩ := s
  cases f with
  | nil => exact Nat.le_refl _
  | cons c f =>
    obtain ⟨n, a, k⟩ := c
    have := put_cnt (r, f) (.mk n a [] k)
    simp only [pop, cntS, cntF, cntN] at *; omega
theorem pops_cnt (j : Nat) : ∀ s : St, cntS (pops j s) ≤ cntS s := by
  induction j with
  | zero => intro s; exact Nat.le_refl _
  | succ j ih => intro s; exact Nat.le_trans (ih _) (pop_cnt s)
theorem stp_cnt (s : St) (t : Tok) : cntS (stp s t) ≤ cntS s + 1 := by
  unfold stp
  split
  · have := put_cnt s (.mk [] [] t.2.2.2 []); simp only [cntN, cntL] at this; omega
  split
  · have h1 := pops_cnt (s.2.length - cls (nms s) t.2.1) s
    unfold opn
    split
    · omega
    split
    · have h2 := put_cnt (pops (s.2.length - cls (nms s) t.2.1) s) (.mk t.2.1 t.2.2.1 [] []); simp only [cntN, cntL] at h2; omega
    · simp only [cntS, cntF, cntL] at *; omega
  split
  · split
    · rename_i i _; have h1 := pops_cnt (s.2.length - i) s; omega
    · omega
  · omega
theorem foldl_cnt (l : List Tok) : ∀ s : St, cntS (l.foldl stp s) ≤ cntS s + l.length := by
  induction l with
  | nil => intro s; exact Nat.le_refl _
  | cons t l ih => intro s; have := ih (stp s t); have := stp_cnt s t; simp only [List.foldl_cons, List.length_cons]; omega
theorem iv_fin {s : St} (h : Iv s) : ckL [] false (fin s) = 0 ∧ dpL (fin s) ≤ 8 := (iv_pops s.2.length h).2
theorem fin_cnt (s : St) : cntL (fin s) ≤ cntS s := by
  have := pops_cnt s.2.length s
  unfold fin; unfold cntS at *; omega
/-- What is built is right. -/
theorem ckT_ofM (l : List Tok) (h : ckE l = 0) : ckT (ofM l) = 0 := by
  obtain ⟨h1, h2⟩ := ckE_all h
  have hI := iv_fin (iv_foldl l (s := ([], [])) ⟨trivial, rfl, by simp [dpL]⟩ h2)
  have hc := foldl_cnt l ([], [])
  have hf := fin_cnt (l.foldl stp ([], []))
  have hm := many_le (ofM l) 8
  have hd := deep_le (ofM l) 8
  unfold ofM at *
  simp only [cntS, cntL, cntF] at hc hf
  unfold ckT
  rw [if_neg (by omega)]
  exact hI.1
theorem ckE_tok {l : List Tok} (h : ckE l = 0) : ∀ t ∈ l, TOk t := fun t ht => (tkE_zero ((ckE_all h).2 t ht)).1
/-- The innermost of what stands open within no wall is there. -/
theorem ins_no (l : List Nd) : ∀ (r : List Nm) (b : Bool), ckL r b l = 0 → insL (abv sP wallN r).isSome (abv sLi ulolN r).isSome l = false := by
  induction l using Nd.ind with
  | h0 => intro r b _; rfl
  | h1 n a x k l ik il =>
    intro r b hc
    obtain ⟨h1, h2⟩ := ckL_cons hc
    obtain ⟨h3, h4, h5⟩ := ckN_mk h1
    have i1 := il r _ h2
    have i2 := ik (n :: r) false h5
    simp only [insL, insN, i1, Bool.or_false]
    have hp : ∀ (m : Nm) (st : Nm → Bool), (abv m st (n :: r)).isSome = (decide (n = m) || (!st n && (abv m st r).isSome)) := by
      intro m st
      simp only [abv]
      by_cases e : n = m
      · simp [e]
      · rw [if_neg e]
        cases st n <;> simp [e]
    rw [hp, hp] at i2
    by_cases hn : n = []
    · subst hn
      obtain ⟨g1, rfl, rfl⟩ := ndE_tx h3
      simp [insL, sP, sLi]
    · obtain ⟨rfl, g2, g3, g4, g5⟩ := ndE_el h3 hn
      have a1 : n = sP → (abv sP wallN r).isSome = false := by
        rintro rfl; rw [cls_p_none g5]; rfl
      have a2 : n = sLi → (abv sLi ulolN r).isSome = false := by
        rintro rfl
        have e1 := cls1_full g5
        unfold cls at g5
        rw [if_pos rfl, e1, Nat.sub_self, List.drop_zero] at g5
        cases e : abv sLi ulolN r with
        | none => rfl
        | some i => have := abv_lt _ _ _ _ e; rw [e] at g5; simp at g5; omega
      have b1 : (decide (n = sP) && (abv sP wallN r).isSome || decide (n = sLi) && (abv sLi ulolN r).isSome) = false := by
        by_cases c1 : n = sP
        · have c2 : ¬ n = sLi := by rw [c1]; decide
          simp [a1 c1, c2]
        · by_cases c2 : n = sLi
          · simp [a2 c2, c1]
          · simp [c1, c2]
      rw [b1, Bool.false_or]
      have c1 : (decide (n = sP) || (!wallN n && (abv sP wallN r).isSome)) = (!(ulolN n || decide (n = sLi) || decide (n = sBq)) && ((abv sP wallN r).isSome || decide (n = sP))) := by
        have : wallN n = (ulolN n || decide (n = sLi) || decide (n = sBq)) := by simp [wallN, ulolN]
        rw [this]
        by_cases c : n = sP
        · subst c; simp [ulolN, sP, sUl, sOl, sLi, sBq]
        · simp [c]
      have c2 : (decide (n = sLi) || (!ulolN n && (abv sLi ulolN r).isSome)) = (!ulolN n && ((abv sLi ulolN r).isSome || decide (n = sLi))) := by
        by_cases c : n = sLi
        · subst c; simp [ulolN, sUl, sOl, sLi]
        · simp [c]
      rw [c1, c2] at i2
      exact i2
/-- No p in a p, no li in a li. -/
theorem ins_ofM (l : List Tok) (h : ckE l = 0) : insL false false (ofM l) = false := by
  have := ins_no (ofM l) [] false (ckT_zero (ckT_ofM l h)).2.2
  exact this

theorem ntx_app (l m : List Nd) : ntxL (l ++ m) = ntxL l ++ ntxL m := by
  induction l with
  | nil => simp [ntxL]
  | cons d l ih => simp [ntxL, ih]
/-- Texts of nodes have no kids, to any depth. -/
def Lf (l : List Nd) : Prop := ∀ d ∈ l, d.n = [] → d.k = []
theorem ntx_pt (l : List Nd) (d : Nd) (hl : Lf l) (hd : d.n = [] → d.k = []) : ntxL (pt l d) = ntxL l ++ ntxN d ∧ Lf (pt l d) := by
  have happ : ntxL (l ++ [d]) = ntxL l ++ ntxN d ∧ Lf (l ++ [d]) := by
    refine ⟨by simp [ntx_app, ntxL], fun c hc => ?_⟩
    rcases List.mem_append.1 hc with hc | hc
    · exact hl c hc
    · rw [List.mem_singleton] at hc; subst hc; exact hd
  unfold pt
  split
  · rename_i a x k e
    split
    · rename_i hn
      rcases List.eq_nil_or_concat l with rfl | ⟨o, c, rfl⟩
      · simp at e
      · simp only [List.concat_eq_append, List.getLast?_append, List.getLast?_singleton, Option.some_or, Option.some.injEq, List.dropLast_concat] at *
        subst e
        have hk : k = [] := hl (.mk [] a x k) (by simp) rfl
        subst hk
        have h2 := hd hn
        cases d with
        | mk n' a' x' k' =>
          simp only [Nd.k] at h2
          subst h2
          refine ⟨by simp [ntx_app, ntxL, ntxN, Nd.x], fun c hc => ?_⟩
          rcases List.mem_append.1 hc with hc | hc
          · exact hl c (List.mem_append_left _ hc)
          · rw [List.mem_singleton] at hc; subst hc; intro _; rfl
    · exact happ
  · exact happ
def ntxF : List (Nm × List Atr × List Nd) → List UInt8
  | [] => []
  | (_, _, k) :: f => ntxF f ++ ntxL k
def ntxS (s : St) : List UInt8 := ntxL s.1 ++ ntxF s.2
def LfF : List (Nm × List Atr × List Nd) → Prop
  | [] => True
  | (n, _, k) :: f => n ≠ [] ∧ Lf k ∧ LfF f
def LfS (s : St) : Prop := Lf s.1 ∧ LfF s.2
theorem put_txt {s : St} {d : Nd} (h : LfS s) (hd : d.n = [] → d.k = []) : ntxS (put s d) = ntxS s ++ ntxN d ∧ LfS (put s d) := by
  obtain ⟨r, f⟩ := s
  cases f with
  | nil =>
    obtain ⟨e, g⟩ := ntx_pt r d h.1 hd
    exact ⟨by simp [put, ntxS, ntxF, e], g, trivial⟩
  | cons c f =>
    obtain ⟨n, a, k⟩ := c
    obtain ⟨e, g⟩ := ntx_pt k d h.2.2.1 hd
    exact ⟨by simp [put, ntxS, ntxF, e], h.1, h.2.1, g, h.2.2.2⟩
theorem pop_txt {s : St} (h : LfS s) : ntxS (pop s) = ntxS s ∧ LfS (pop s) := by
  obtain ⟨r, f⟩ := s
  cases f with
  | nil => exact ⟨rfl, h⟩
  | cons c f =>
    obtain ⟨n, a, k⟩ := c
    obtain ⟨e, g⟩ := put_txt (s := (r, f)) (d := .mk n a [] k) ⟨h.1, h.2.2.2⟩ (fun e => absurd e h.2.1)
    refine ⟨?_, g⟩
    rw [show pop (r, (n, a, k) :: f) = put (r, f) (.mk n a [] k) from rfl, e]
    simp [ntxS, ntxF, ntxN]
theorem pops_txt (j : Nat) : ∀ {s : St}, LfS s → ntxS (pops j s) = ntxS s ∧ LfS (pops j s) := by
  induction j with
  | zero => intro s h; exact ⟨rfl, h⟩
  | succ j ih =>
    intro s h
    obtain ⟨e1, g1⟩ := pop_txt h
    obtain ⟨e2, g2⟩ := ih g1
    exact ⟨by rw [pops_succ, e2, e1], g2⟩
theorem stp_txt {s : St} {t : Tok} (h : LfS s) (ht : tkE t = 0) : ntxS (stp s t) = ntxS s ++ t.2.2.2 ∧ LfS (stp s t) := by
  obtain ⟨hk, h1, h2⟩ := tkE_zero ht
  unfold stp
  by_cases e1 : t.1 = 1
  · rw [if_pos e1]
    obtain ⟨e, g⟩ := put_txt (d := .mk [] [] t.2.2.2 []) h (fun _ => rfl)
    exact ⟨by rw [e]; simp [ntxN, ntxL], g⟩
  rw [if_neg e1]
  obtain ⟨g1, g2, g3, g4⟩ := h2 e1
  rw [g1, List.append_nil]
  by_cases e2 : t.1 = 2
  · rw [if_pos e2]
    obtain ⟨e, g⟩ := pops_txt (s.2.length - cls (nms s) t.2.1) h
    unfold opn
    split
    · exact ⟨e, g⟩
    split
    · obtain ⟨e', g'⟩ := put_txt (d := .mk t.2.1 t.2.2.1 [] []) g (fun _ => rfl)
      exact ⟨by rw [e', e]; simp [ntxN, ntxL], g'⟩
    · exact ⟨by rw [← e]; simp [ntxS, ntxF, ntxL], g.1, g3, fun c hc => by simp at hc, g.2⟩
  rw [if_neg e2]
  split
  · split
    · exact pops_txt _ h
    · exact ⟨rfl, h⟩
  · exact ⟨rfl, h⟩
theorem foldl_txt (l : List Tok) : ∀ {s : St}, LfS s → (∀ t ∈ l, tkE t = 0) → ntxS (l.foldl stp s) = ntxS s ++ l.flatMap (·.2.2.2) ∧ LfS (l.foldl stp s) := by
  induction l with
  | nil => intro s h _; exact ⟨by simp, h⟩
  | cons t l ih =>
    intro s h ht
    obtain ⟨e1, g1⟩ := stp_txt h (ht t (by simp))
    obtain ⟨e2, g2⟩ := ih g1 (fun u hu => ht u (by simp [hu]))
    exact ⟨by rw [List.foldl_cons, e2, e1]; simp, g2⟩
/-- No text is lost. -/
theorem txt_ofM (l : List Tok) (h : ckE l = 0) : ntxL (ofM l) = l.flatMap (·.2.2.2) := by
  obtain ⟨e, g⟩ := foldl_txt l (s := ([], [])) ⟨fun c hc => by simp at hc, trivial⟩ (ckE_all h).2
  obtain ⟨e2, g2⟩ := pops_txt (l.foldl stp ([], [])).2.length g
  have h0 : (pops (l.foldl stp ([], [])).2.length (l.foldl stp ([], []))).2 = [] := List.eq_nil_of_length_eq_zero (by rw [pops_len]; simp)
  unfold ofM fin
  rw [e] at e2
  unfold ntxS at e2
  rw [h0] at e2
  simpa [ntxF, ntxL] using e2
theorem sameL_iff (l : List Nd) : ∀ m, sameL l m = true ↔ l = m := by
  induction l using Nd.ind with
  | h0 => intro m; cases m <;> simp [sameL]
  | h1 n a x k l ik il =>
    intro m
    cases m with
    | nil => simp [sameL]
    | cons d m =>
      cases d with
      | mk n' a' x' k' =>
        simp only [sameL, sameN, Bool.and_eq_true, decide_eq_true_eq, ik, il, List.cons.injEq, Nd.mk.injEq]
        constructor
        · rintro ⟨⟨⟨⟨h1, h2⟩, h3⟩, h4⟩, h5⟩; exact ⟨⟨h1, h3, h2, h4⟩, h5⟩
        · rintro ⟨⟨h1, h3, h2, h4⟩, h5⟩; exact ⟨⟨⟨⟨h1, h2⟩, h3⟩, h4⟩, h5⟩
theorem sameL_self (l : List Nd) : sameL l l = true := (sameL_iff l l).2 rfl
end Go.Proofs.YtkacjnifhmgeiaaGreatDoor

namespace Go.Proofs.YtkacjnifhmgeiaaGreatDoor
open Go.RowKit

theorem sgn_amp (r : List UInt8) : sgn (38 :: 97 :: 109 :: 112 :: 59 :: r) = ([38], 5, true) := rfl
theorem sgn_lt (r : List UInt8) : sgn (38 :: 108 :: 116 :: 59 :: r) = ([60], 4, true) := rfl
theorem sgn_gt (r : List UInt8) : sgn (38 :: 103 :: 116 :: 59 :: r) = ([62], 4, true) := rfl
theorem sgn_quot (r : List UInt8) : sgn (38 :: 113 :: 117 :: 111 :: 116 :: 59 :: r) = ([34], 6, true) := rfl
theorem putc_38 : putc 38 = [38, 97, 109, 112, 59] := rfl
theorem putc_60 : putc 60 = [38, 108, 116, 59] := rfl
theorem putc_62 : putc 62 = [38, 103, 116, 59] := rfl
theorem putc_34 : putc 34 = [38, 113, 117, 111, 116, 59] := rfl
theorem spc_cases {c : UInt8} (h : spc c = true) : c = 38 ∨ c = 60 ∨ c = 62 ∨ c = 34 := by
  simp only [spc, Bool.or_eq_true, beq_iff_eq] at h
  rcases h with ((h | h) | h) | h <;> simp [h]
theorem Tk_put_app (s r : List UInt8) : Tk (PutL s ++ r) = (s ++ (Tk r).1, (Tk r).2) := by
  induction s with
  | nil => rfl
  | cons c s ih =>
    rw [show PutL (c :: s) = putc c ++ PutL s from rfl, List.append_assoc]
    cases hc : spc c
    · rw [putc_plain hc, List.singleton_append, Tk_plain _ _ (by rintro rfl; exact absurd hc (by decide)), ih]; rfl
    · rcases spc_cases hc with rfl | rfl | rfl | rfl
      · rw [putc_38]; simp only [List.cons_append, List.nil_append]; rw [Tk_amp, sgn_amp]
        simp only [show 5 - 1 = 4 from rfl, List.drop_succ_cons, List.drop_zero, ih, Bool.true_and, List.cons_append, List.nil_append]
      · rw [putc_60]; simp only [List.cons_append, List.nil_append]; rw [Tk_amp, sgn_lt]
        simp only [show 4 - 1 = 3 from rfl, List.drop_succ_cons, List.drop_zero, ih, Bool.true_and, List.cons_append, List.nil_append]
      · rw [putc_62]; simp only [List.cons_append, List.nil_append]; rw [Tk_amp, sgn_gt]
        simp only [show 4 - 1 = 3 from rfl, List.drop_succ_cons, List.drop_zero, ih, Bool.true_and, List.cons_append, List.nil_append]
      · rw [putc_34]; simp only [List.cons_append, List.nil_append]; rw [Tk_amp, sgn_quot]
        simp only [show 6 - 1 = 5 from rfl, List.drop_succ_cons, List.drop_zero, ih, Bool.true_and, List.cons_append, List.nil_append]
theorem Tk_put (s : List UInt8) : Tk (PutL s) = (s, true) := by
  have := Tk_put_app s []
  rw [List.append_nil] at this; rw [this]; simp [Tk_nil]
theorem PutL_no (s : List UInt8) (c : UInt8) (h : c ∈ PutL s) : c ≠ 60 ∧ c ≠ 62 ∧ c ≠ 34 := by
  obtain ⟨x, _, hx⟩ := List.mem_flatMap.1 h
  cases hc : spc x
  · rw [putc_plain hc, List.mem_singleton] at hx
    subst hx
    refine ⟨?_, ?_, ?_⟩ <;> (rintro rfl; exact absurd hc (by decide))
  · rcases spc_cases hc with rfl | rfl | rfl | rfl
    · rw [putc_38] at hx; clear h; revert c; decide
    · rw [putc_60] at hx; clear h; revert c; decide
    · rw [putc_62] at hx; clear h; revert c; decide
    · rw [putc_34] at hx; clear h; revert c; decide
end Go.Proofs.YtkacjnifhmgeiaaGreatDoor

namespace Go.Proofs.YtkacjnifhmgeiaaGreatDoor
open Go.RowKit

theorem pre_cons (p t : List UInt8) (c d : UInt8) : pre (c :: p) (d :: t) = (c == d && pre p t) := rfl
theorem pre_nil (t : List UInt8) : pre [] t = true := rfl
theorem pre_app (p t : List UInt8) : pre p (p ++ t) = true := List.isPrefixOf_iff_prefix.2 (List.prefix_append _ _)
theorem pre_off {p t : List UInt8} {c d : UInt8} (h : c ≠ d) : pre (c :: p) (d :: t) = false := by
  rw [pre_cons]; simp [h]
theorem tb1_tb {c : UInt8} (h : tiB1 c = true) : tiB c = true := by simp [tiB, h]
theorem isTi_cons {l : List UInt8} (h : isTi l = true) : ∃ c r, l = c :: r ∧ tiB1 c = true ∧ r.all tiB = true := by
  cases l with
  | nil => simp [isTi] at h
  | cons c r => simp [isTi] at h; exact ⟨c, r, rfl, h.1.1, by simpa using h.1.2⟩
theorem isTi_ne {l : List UInt8} (h : isTi l = true) : l ≠ [] := by rintro rfl; simp [isTi] at h
theorem tws {α : Type} (p : α → Bool) (a : List α) (c : α) (r : List α) (ha : a.all p = true) (hc : p c = false) : (a ++ c :: r).takeWhile p = a ∧ (a ++ c :: r).dropWhile p = c :: r := by
  induction a with
  | nil => simp [hc]
  | cons x a ih => simp only [List.all_cons, Bool.and_eq_true] at ha; obtain ⟨i1, i2⟩ := ih ha.2; simp [ha.1, i1, i2]
theorem tiX_of {n : List UInt8} (h : isTi n = true) (c : UInt8) (hc : tiB c = false) (r : List UInt8) : tiX (n ++ c :: r) = .ok (n, c :: r) := by
  obtain ⟨d, s, rfl, h1, h2⟩ := isTi_cons h
  have : tiS (d :: s ++ c :: r) = (d :: s, c :: r) := by
    obtain ⟨e1, e2⟩ := tws tiB s c r h2 hc
    simp only [List.cons_append, tiS, if_pos h1, e1, e2]
  unfold tiX
  rw [this, if_pos h]
theorem cutS_q (q : UInt8) (a r : List UInt8) (h : q ∉ a) : cutS [q] (a ++ q :: r) = some r := by
  induction a with
  | nil => simp [cutS, pre]
  | cons c a ih =>
    simp only [List.mem_cons, not_or] at h
    rw [List.cons_append, cutS, if_neg (by rw [pre_off h.1]; decide), ih h.2]
theorem toS_one (q : UInt8) (a r : List UInt8) (h : q ∉ a) : toS [q] (a ++ q :: r) = some (a, r) := by
  unfold toS
  rw [cutS_q q a r h]
  simp only [Option.map_some, List.length_append, List.length_cons, List.length_nil]
  rw [show a.length + (r.length + 1) - r.length - (0 + 1) = a.length by omega, List.take_left]
theorem needX_app (p r : List UInt8) : needX p (p ++ r) = .ok r := by
  unfold needX
  rw [if_pos (pre_app p r), List.drop_left]
theorem wsX_no {c : UInt8} (h : blk c = false) (r : List UInt8) : wsX (c :: r) = c :: r := by simp [wsX, h]
theorem put_no (v : List UInt8) : 34 ∉ PutL v ∧ 60 ∉ PutL v := ⟨fun h => (PutL_no v _ h).2.2 rfl, fun h => (PutL_no v _ h).1 rfl⟩
theorem vaX_written (v r : List UInt8) : vaX (61 :: 34 :: (PutL v ++ 34 :: r)) = .ok (v, r) := by
  obtain ⟨h1, h2⟩ := put_no v
  unfold vaX
  rw [wsX_no (by decide), show (61 :: 34 :: (PutL v ++ 34 :: r) : List UInt8) = [61] ++ 34 :: (PutL v ++ 34 :: r) from rfl, needX_app]
  simp only []
  rw [wsX_no (by decide), if_neg (by rw [pre_off (by decide)]; decide), show (34 :: (PutL v ++ 34 :: r) : List UInt8) = [34] ++ (PutL v ++ 34 :: r) from rfl, needX_app]
  simp only []
  rw [toS_one _ _ _ h1]
  simp only []
  rw [if_neg h2, Tk_put]
  rfl
theorem atXF_cons {p : List Atr} {a : Atr} {l : List Atr} (h : atXF p (a :: l) = 0) : isTi a.1 = true ∧ atXF p [a] = 0 ∧ atXF (p ++ [a]) l = 0 := by
  simp only [atXF] at h ⊢
  split at h
  · simp at h
  rename_i h1
  split at h
  · simp at h
  rename_i h2
  refine ⟨by simpa using h1, ?_, h⟩
  rw [if_neg h1, if_neg h2]
theorem atXF_app (l m : List Atr) : ∀ p, atXF p (l ++ m) = 0 ↔ atXF p l = 0 ∧ atXF (p ++ l) m = 0 := by
  induction l with
  | nil => intro p; simp [atXF]
  | cons a l ih =>
    intro p
    simp only [List.cons_append, atXF]
    split
    · simp
    split
    · simp
    · rw [ih]; simp
theorem asF_written (al : List Atr) : ∀ (k : Nat) (out : List Atr) (c : UInt8) (r : List UInt8), al.length ≤ k → atX (out ++ al) = 0 → blk c = false → asF k (atW al ++ c :: r) out = .ok (out ++ al, c :: r) := by
  induction al with
  | nil =>
    intro k out c r _ _ hb
    simp only [atW, List.flatMap_nil, List.nil_append, List.append_nil]
    cases k with
    | zero => rfl
    | succ k => rw [asF, if_neg (by rw [wsX_no hb]; omega), wsX_no hb]
  | cons a al ih =>
    intro k out c r hk ha hb
    obtain ⟨n, v⟩ := a
    obtain ⟨k, rfl⟩ : ∃ j, k = j + 1 := ⟨k - 1, by simp at hk; omega⟩
    unfold atX at ha
    have ha2 := (atXF_app _ _ _).1 ha
    obtain ⟨h1, h2, h3⟩ := atXF_cons ha2.2
    simp only [List.nil_append] at h1 h2 h3
    obtain ⟨d, s, hn, h4, h5⟩ := isTi_cons h1
    have e : atW ((n, v) :: al) ++ c :: r = 32 :: (n ++ 61 :: 34 :: (PutL v ++ 34 :: (atW al ++ c :: r))) := by simp [atW]
    have hd : blk d = false := by
      simp only [tiB1, ltr, lwr, blk, Bool.or_eq_true, Bool.and_eq_true, decide_eq_true_eq, Bool.or_eq_false_iff, decide_eq_false_iff_not] at *
      omega
    have ew : wsX (32 :: (n ++ 61 :: 34 :: (PutL v ++ 34 :: (atW al ++ c :: r)))) = n ++ 61 :: 34 :: (PutL v ++ 34 :: (atW al ++ c :: r)) := by
      have : wsX (32 :: (n ++ 61 :: 34 :: (PutL v ++ 34 :: (atW al ++ c :: r)))) = wsX (n ++ 61 :: 34 :: (PutL v ++ 34 :: (atW al ++ c :: r))) := by simp [wsX, blk]
      rw [this, hn]; exact wsX_no hd _
    rw [e, asF, ew, if_pos ⟨by simp <;> omega, by rw [hn]; simpa using h4⟩, tiX_of h1 _ (by decide)]
    simp only []
    rw [vaX_written]
    simp only []
    have h6 : atX (out ++ [(n, v)]) = 0 := (atXF_app _ _ _).2 ⟨ha2.1, h2⟩
    rw [if_neg (by simp [h6]), ih k _ c r (by simpa using hk) (by simpa [atX] using ha) hb]
    simp
theorem cxL_cons {p : Bool} {d : Nd} {l : List Nd} (h : cxL p (d :: l) = 0) : cxN p d = 0 ∧ cxL (decide (d.n = [])) l = 0 := by
  simp only [cxL] at h
  split at h
  · rename_i a; exact absurd h a
  · rename_i a; exact ⟨Decidable.not_not.1 a, h⟩
theorem cxN_mk {p : Bool} {n : List UInt8} {a : List Atr} {x : List UInt8} {k : List Nd} (h : cxN p (.mk n a x k) = 0) : nxE (.mk n a x k) = 0 ∧ cxL false k = 0 ∧ ¬ (p = true ∧ n = []) := by
  simp only [cxN] at h
  split at h
  · rename_i a; exact absurd h a
  rename_i a
  split at h
  · rename_i b; exact absurd h b
  rename_i b
  split at h
  · simp at h
  · rename_i c; exact ⟨Decidable.not_not.1 a, Decidable.not_not.1 b, c⟩
theorem nxE_el {n : List UInt8} {a : List Atr} {x : List UInt8} {k : List Nd} (h : nxE (.mk n a x k) = 0) (hn : n ≠ []) : x = [] ∧ isTi n = true ∧ atX a = 0 := by
  simp only [nxE, if_neg hn] at h
  split at h
  · simp at h
  rename_i h1
  refine ⟨Decidable.not_not.1 (fun e => h1 (.inl e)), ?_, h⟩
  cases e : isTi n
  · exact absurd (.inr e) h1
  · rfl
theorem nxE_tx {a : List Atr} {x : List UInt8} {k : List Nd} (h : nxE (.mk [] a x k) = 0) : x ≠ [] ∧ a = [] ∧ k = [] := by
  simp only [nxE, if_true] at h
  split at h
  · simp at h
  rename_i h1
  exact ⟨fun e => h1 (.inl e), Decidable.byContradiction fun e => h1 (.inr (.inl e)), Decidable.byContradiction fun e => h1 (.inr (.inr e))⟩
/-- Bytes that begin a title are none of these. -/
theorem tb1_not {c : UInt8} (h : tiB1 c = true) : c ≠ 33 ∧ c ≠ 47 ∧ c ≠ 63 := by
  refine ⟨?_, ?_, ?_⟩ <;> (rintro rfl; revert h; decide)
theorem put_ne {x : List UInt8} (h : x ≠ []) : ∃ c r, PutL x = c :: r ∧ c ≠ 60 := by
  cases x with
  | nil => exact absurd rfl h
  | cons c x =>
    cases e : PutL (c :: x) with
    | nil =>
      simp only [PutL, List.flatMap_cons, List.append_eq_nil_iff] at e
      have := e.1
      unfold putc at this
      (repeat' split at this) <;> simp at this
    | cons d r => exact ⟨d, r, rfl, (PutL_no (c :: x) d (by rw [e]; simp)).1⟩
/-- Written nodes that no text begins, and an end, begin with <. -/
theorem wrL_head (l : List Nd) (r : List UInt8) (h : cxL true l = 0) : ∃ t, wrL l ++ 60 :: 47 :: r = 60 :: t := by
  cases l with
  | nil => exact ⟨_, rfl⟩
  | cons d l =>
    cases d with
    | mk n a x k =>
      obtain ⟨_, _, h1⟩ := cxN_mk (cxL_cons h).1
      have hn : n ≠ [] := fun e => h1 ⟨rfl, e⟩
      simp only [wrL, wrX, if_neg hn, List.cons_append]
      exact ⟨_, rfl⟩
theorem el_read (n : List UInt8) (a : List Atr) (kk : List Nd) (k deep : Nat) (R : List UInt8) (g2 : isTi n = true) (g3 : atX a = 0) (hd : deep ≤ 8) (hK : kk = [] ∨ kiF k deep (wrL kk ++ 60 :: 47 :: (n ++ 62 :: R)) [] = .ok (kk, n ++ 62 :: R)) :
    elF (k + 1) deep (60 :: (n ++ (atW a ++ ((if kk = [] then [47, 62] else 62 :: wrL kk ++ [60, 47] ++ n ++ [62]) ++ R)))) = .ok (.mk n a [] kk, R) := by
  rw [elF, show (60 :: (n ++ (atW a ++ ((if kk = [] then [47, 62] else 62 :: wrL kk ++ [60, 47] ++ n ++ [62]) ++ R))) : List UInt8) = [60] ++ (n ++ (atW a ++ ((if kk = [] then [47, 62] else 62 :: wrL kk ++ [60, 47] ++ n ++ [62]) ++ R))) from rfl, needX_app]
  simp only []
  have hc : ∃ c t, ((if kk = [] then [47, 62] else 62 :: wrL kk ++ [60, 47] ++ n ++ [62]) ++ R) = c :: t ∧ (c = 47 ∨ c = 62) := by
    split
    · exact ⟨_, _, rfl, .inl rfl⟩
    · exact ⟨_, _, rfl, .inr rfl⟩
  obtain ⟨c', t', e4, e5⟩ := hc
  have hw : ∃ c t, atW a ++ c' :: t' = c :: t ∧ tiB c = false := by
    cases a with
    | nil => exact ⟨c', t', rfl, by rcases e5 with rfl | rfl <;> decide⟩
    | cons b a => exact ⟨32, _, by simp only [atW, List.flatMap_cons, List.cons_append]; rfl, by decide⟩
  obtain ⟨c2, t2, e6, e7⟩ := hw
  have hal : a.length ≤ (atW a ++ c' :: t').length := by
    have : ∀ b : List Atr, b.length ≤ (atW b).length := by
      intro b
      induction b with
      | nil => simp
      | cons y b ih => simp only [atW, List.flatMap_cons, List.length_append, List.length_cons] at *; omega
    have := this a
    simp only [List.length_append]; omega
  rw [e4]
  conv => lhs; rw [e6]
  rw [tiX_of g2 _ e7, ← e6]
  simp only []
  rw [if_neg (by omega)]
  unfold atrX
  rw [asF_written a _ [] c' t' hal (by simpa using g3) (by rcases e5 with rfl | rfl <;> decide)]
  simp only [List.nil_append]
  rw [← e4]
  by_cases hk0 : kk = []
  · subst hk0
    simp [pre]
  · rw [if_neg hk0]
    simp only [List.cons_append, List.append_assoc, List.nil_append]
    rw [if_neg (by rw [pre_off (by decide)]; decide), show (62 :: (wrL kk ++ 60 :: 47 :: (n ++ 62 :: R)) : List UInt8) = [62] ++ (wrL kk ++ 60 :: 47 :: (n ++ 62 :: R)) from rfl, needX_app]
    simp only []
    rcases hK with h | hK
    · exact absurd h hk0
    rw [hK]
    simp only []
    rw [tiX_of g2 _ (by decide)]
    simp only []
    rw [if_neg (by simp), wsX_no (by decide), show (62 :: R : List UInt8) = [62] ++ R from rfl, needX_app]
theorem xm_read (l : List Nd) : (∀ (k deep : Nat) (out : List Nd) (r : List UInt8), 1 + 2 * cntL l ≤ k → cxL (lastT out) l = 0 → deep + dpL l ≤ 8 → kiF k deep (wrL l ++ 60 :: 47 :: r) out = .ok (out ++ l, r)) := by
  induction l using Nd.ind with
  | h0 =>
    intro k deep out r hk _ _
    obtain ⟨k, rfl⟩ : ∃ j, k = j + 1 := ⟨k - 1, by omega⟩
    simp [kiF, wrL, pre]
  | h1 n a x kk l ik il =>
    intro k deep out r hk hc hd
    obtain ⟨k, rfl⟩ : ∃ j, k = j + 1 := ⟨k - 1, by omega⟩
    obtain ⟨h1, h2⟩ := cxL_cons hc
    obtain ⟨h3, h4, h5⟩ := cxN_mk h1
    simp only [cntL, cntN, dpL, dpN] at hk hd
    have rest := il k deep (out ++ [.mk n a x kk]) r (by omega) (by rw [lastT_snoc]; exact h2) (by omega)
    simp only [wrL]
    by_cases hn : n = []
    · subst hn
      obtain ⟨g1, rfl, rfl⟩ := nxE_tx h3
      obtain ⟨c, s, e1, e2⟩ := put_ne g1
      obtain ⟨t, e3⟩ := wrL_head l r (by simpa [Nd.n] using h2)
      have e2' := Ne.symm e2
      simp only [wrX, if_true, List.append_assoc]
      rw [e3] at rest ⊢
      obtain ⟨e4, e5⟩ := tws (· != 60) (PutL x) 60 t (by rw [List.all_eq_true]; intro y hy; simpa using (PutL_no x y hy).1) (by decide)
      have hp : ∀ p : List UInt8, pre (60 :: p) (PutL x ++ 60 :: t) = false := fun p => by rw [e1]; exact pre_off e2'
      rw [kiF, if_neg (by rw [hp]; decide), if_neg (by unfold sCd; rw [hp]; decide)]
      have : asX (PutL x ++ 60 :: t) = .ok none := by
        unfold asX sCom sPi
        rw [if_neg (by rw [hp]; decide), if_neg (by rw [hp]; decide)]
      rw [this]
      simp only []
      rw [if_neg (by rw [hp]; decide), e4, e5, Tk_put]
      simp only [addT, if_neg g1]
      rw [pt_no _ _ (by cases e : lastT out; rfl; exact absurd ⟨e, rfl⟩ h5)]
      simpa using rest
    · obtain ⟨rfl, g2, g3⟩ := nxE_el h3 hn
      obtain ⟨c, s, e1, e2, e3⟩ := isTi_cons g2
      obtain ⟨q1, q2, q3⟩ := tb1_not e2
      rw [if_neg hn] at hd
      simp only [wrX, if_neg hn, List.cons_append, List.append_assoc]
      have hp : ∀ (p t : List UInt8) (b : UInt8), b ≠ c → pre (60 :: b :: p) (60 :: (n ++ t)) = false := fun p t b hb => by
        rw [pre_cons, e1, List.cons_append, pre_off hb]; rfl
      rw [kiF, if_neg (by rw [hp _ _ _ (Ne.symm q2)]; decide), if_neg (by unfold sCd; rw [hp _ _ _ (Ne.symm q1)]; decide)]
      have : ∀ t, asX (60 :: (n ++ t)) = .ok none := by
        intro t
        unfold asX sCom sPi
        rw [if_neg (by rw [hp _ _ _ (Ne.symm q1)]; decide), if_neg (by rw [hp _ _ _ (Ne.symm q3)]; decide)]
      rw [this]
      simp only []
      rw [if_pos (by rw [pre_cons]; rfl)]
      obtain ⟨k, rfl⟩ : ∃ j, k = j + 1 := ⟨k - 1, by omega⟩
      have key := el_read n a kk k (deep + 1) (wrL l ++ 60 :: 47 :: r) g2 g3 (by omega) (.inr (ik k (deep + 1) [] _ (by omega) h4 (by omega)))
      simp only [List.cons_append, List.append_assoc] at key
      rw [key]
      simp only []
      simpa using rest
theorem wr_len (l : List Nd) : ∀ p, cxL p l = 0 → cntL l ≤ (wrL l).length := by
  induction l using Nd.ind with
  | h0 => intro p _; simp [cntL]
  | h1 n a x k l ik il =>
    intro p hc
    obtain ⟨h1, h2⟩ := cxL_cons hc
    obtain ⟨h3, h4, h5⟩ := cxN_mk h1
    have i1 := il _ h2
    have i2 := ik _ h4
    simp only [cntL, cntN, wrL, wrX, List.length_append]
    by_cases hn : n = []
    · subst hn
      obtain ⟨g1, rfl, rfl⟩ := nxE_tx h3
      obtain ⟨c, s, e1, e2⟩ := put_ne g1
      simp only [if_true, e1, List.length_cons, cntL]; omega
    · rw [if_neg hn]
      by_cases hk : k = []
      · subst hk; simp [cntL]; omega
      · simp only [if_neg hk, List.length_append, List.length_cons]; omega
theorem miX_no {c : UInt8} {t : List UInt8} (h1 : blk c = false) (h2 : asX (c :: t) = .ok none) : miX (c :: t) = .ok (c :: t) := by
  unfold miX
  rw [List.length_cons, miF, if_neg (by rw [wsX_no h1]; omega), h2]
theorem miX_nil : miX [] = .ok [] := rfl
/-- CheckXml, but for how many nodes there are, and how deep. -/
theorem XmP_written (d : Nd) (hn : d.n ≠ []) (hc : cxN false d = 0) (hd : dpN d ≤ 8) : XmP (wrX d) = .ok d := by
  cases d with
  | mk n a x k =>
    simp only [Nd.n] at hn
    obtain ⟨h3, h4, h5⟩ := cxN_mk hc
    obtain ⟨rfl, g2, g3⟩ := nxE_el h3 hn
    obtain ⟨c, s, e1, e2, e3⟩ := isTi_cons g2
    obtain ⟨q1, q2, q3⟩ := tb1_not e2
    have hT : wrX (.mk n a [] k) = 60 :: (n ++ (atW a ++ (if k = [] then [47, 62] else 62 :: wrL k ++ [60, 47] ++ n ++ [62]))) := by
      simp only [wrX, if_neg hn, List.cons_append, List.append_assoc]
    obtain ⟨B, hB⟩ : ∃ B, B = (atW a ++ (if k = [] then [47, 62] else 62 :: wrL k ++ [60, 47] ++ n ++ [62])) := ⟨_, rfl⟩
    have has : asX (60 :: (n ++ B)) = .ok none := by
      unfold asX sCom sPi
      rw [if_neg (by rw [pre_cons, e1, List.cons_append, pre_off (Ne.symm q1)]; decide), if_neg (by rw [pre_cons, e1, List.cons_append, pre_off (Ne.symm q3)]; decide)]
    have hlen := wr_len k false h4
    unfold XmP
    rw [hT, ← hB, miX_no (by decide) has]
    simp only []
    have hcl : k = [] ∨ cntL k ≤ (n ++ B).length := by
      rw [hB]
      by_cases hk : k = []
      · exact .inl hk
      · right; simp only [if_neg hk, List.length_append, List.length_cons]; omega
    have key := el_read n a k (2 * (60 :: (n ++ B)).length + 1) 1 [] g2 g3 (by omega) (by
      rcases hcl with h | h
      · exact .inl h
      · refine .inr (xm_read k _ 1 [] _ (by simp only [List.length_cons]; omega) h4 (by simp only [dpN, if_neg hn] at hd; omega)))
    rw [List.append_nil, ← hB] at key
    rw [key]
    rfl
theorem cxL_app : ∀ (l : List Nd) (p : Bool) (m : List Nd), cxL p l = 0 → cxL (if l = [] then p else lastT l) m = 0 → cxL p (l ++ m) = 0 := by
  intro l
  induction l with
  | nil => intro p m _ h; simpa using h
  | cons d l ih =>
    intro p m h hm
    obtain ⟨h1, h2⟩ := cxL_cons h
    simp only [List.cons_append, cxL]
    rw [if_neg (by simp [h1])]
    refine ih _ m h2 ?_
    rw [if_neg (by simp)] at hm
    split
    · rename_i e; subst e; simpa [lastT] using hm
    · rename_i e
      have : lastT (d :: l) = lastT l := by unfold lastT; rw [List.getLast?_cons]; cases e2 : l.getLast? with
        | none => simp at e2; exact absurd e2 e
        | some v => simp
      rw [← this]; exact hm
theorem cxL_init : ∀ (l : List Nd) (p : Bool) (d : Nd), cxL p (l ++ [d]) = 0 → cxL p l = 0 ∧ cxN (if l = [] then p else lastT l) d = 0 := by
  intro l
  induction l with
  | nil => intro p d h; exact ⟨rfl, (cxL_cons h).1⟩
  | cons c l ih =>
    intro p d h
    obtain ⟨h1, h2⟩ := cxL_cons (l := l ++ [d]) h
    obtain ⟨g1, g2⟩ := ih _ d h2
    refine ⟨?_, ?_⟩
    · simp only [cxL]; rw [if_neg (by simp [h1])]; exact g1
    · rw [if_neg (by simp)]
      split at g2
      · rename_i e; subst e; simpa [lastT] using g2
      · rename_i e
        have : lastT (c :: l) = lastT l := by unfold lastT; rw [List.getLast?_cons]; cases e2 : l.getLast? with
          | none => simp at e2; exact absurd e2 e
          | some v => simp
        rw [this]; exact g2
theorem cxN_any {p q : Bool} {d : Nd} (h : cxN p d = 0) (hq : q = true → d.n ≠ []) : cxN q d = 0 := by
  cases d with
  | mk n a x k =>
    obtain ⟨h1, h2, h3⟩ := cxN_mk h
    simp only [cxN]
    rw [if_neg (by simp [h1]), if_neg (by simp [h2]), if_neg (by rintro ⟨a, b⟩; exact hq a b)]
theorem pt_cx (l : List Nd) (d : Nd) (h : cxL false l = 0) (hd : cxN false d = 0) : cxL false (pt l d) = 0 := by
  by_cases hT : lastT l = true ∧ d.n = []
  · obtain ⟨hT, hn⟩ := hT
    rcases List.eq_nil_or_concat l with rfl | ⟨o, c, rfl⟩
    · simp [lastT] at hT
    · rw [List.concat_eq_append] at *
      rw [lastT_snoc] at hT
      cases c with
      | mk n a x k =>
        obtain rfl : n = [] := of_decide_eq_true hT
        obtain ⟨g1, g2⟩ := cxL_init o false _ h
        obtain ⟨g3, g4, g5⟩ := cxN_mk g2
        obtain ⟨g6, rfl, rfl⟩ := nxE_tx g3
        have e : pt (o ++ [.mk [] [] x []]) d = o ++ [.mk [] [] (x ++ d.x) []] := by
          unfold pt; simp [hn]
        rw [e]
        refine cxL_app o false _ g1 ?_
        have g7 : cxN (if o = [] then false else lastT o) (.mk [] [] (x ++ d.x) []) = 0 := by
          simp only [cxN, nxE]
          rw [if_neg (by simp [g6]), if_neg (by simp [cxL]), if_neg (fun e => g5 ⟨e.1, rfl⟩)]
        simp only [cxL]
        rw [if_neg (fun e => e g7)]
  · have hap : pt l d = l ++ [d] := by
      by_cases hL : lastT l = true
      · exact pt_el l d (fun e => hT ⟨hL, e⟩)
      · exact pt_no l d (by simpa using hL)
    rw [hap]
    refine cxL_app l false _ h ?_
    have : cxN (if l = [] then false else lastT l) d = 0 := by
      refine cxN_any hd (fun e => ?_)
      split at e
      · simp at e
      · exact fun e2 => hT ⟨e, e2⟩
    simp only [cxL]
    rw [if_neg (fun e => e this)]
theorem addT_cx (l : List Nd) (s : List UInt8) (h : cxL false l = 0) : cxL false (addT l s) = 0 := by
  unfold addT
  split
  · exact h
  · rename_i hs
    exact pt_cx l _ h (by simp [cxN, nxE, hs, cxL])
theorem addT_dp (l : List Nd) (s : List UInt8) (m : Nat) (h : dpL l ≤ m) : dpL (addT l s) ≤ m := by
  unfold addT
  split
  · exact h
  · exact pt_dp l _ m h (by simp [dpN])
theorem addT_cnt (l : List Nd) (s : List UInt8) : cntL (addT l s) ≤ cntL l + 1 := by
  unfold addT
  split
  · omega
  · have := pt_cnt l (.mk [] [] s []); simp only [cntN, cntL] at this; omega
theorem wsX_len (t : List UInt8) : (wsX t).length ≤ t.length := dw_len t
theorem needX_len {p t r : List UInt8} (h : needX p t = .ok r) : r.length + p.length = t.length := by
  unfold needX at h
  split at h
  · rename_i h1
    cases h
    have := (List.isPrefixOf_iff_prefix.1 h1).length_le
    simp; omega
  · cases h
theorem tiS_len (t : List UInt8) : (tiS t).1.length + (tiS t).2.length = t.length := by
  cases t with
  | nil => rfl
  | cons c r =>
    simp only [tiS]
    split
    · have := congrArg List.length (List.takeWhile_append_dropWhile (p := tiB) (l := r))
      simp only [List.length_append, List.length_cons] at *; omega
    · simp
theorem tiX_len {t n r : List UInt8} (h : tiX t = .ok (n, r)) : n.length + r.length = t.length ∧ isTi n = true := by
  unfold tiX at h
  split at h
  · rename_i h1
    simp only [Except.ok.injEq] at h
    have := tiS_len t
    rw [h] at this h1
    exact ⟨this, h1⟩
  · cases h
theorem toS_len {p t v r : List UInt8} (hp : 0 < p.length) (h : toS p t = some (v, r)) : r.length < t.length := by
  unfold toS at h
  cases e : cutS p t with
  | none => rw [e] at h; simp at h
  | some u =>
    rw [e] at h
    simp only [Option.map_some, Option.some.injEq, Prod.mk.injEq] at h
    obtain ⟨-, rfl⟩ := h
    exact cutS_len p hp _ _ e
theorem asX_len {t r : List UInt8} (h : asX t = .ok (some r)) : r.length < t.length := by
  unfold asX at h
  split at h
  · rename_i h1
    cases e : cutS sComE (t.drop 4) with
    | none => rw [e] at h; cases h
    | some u =>
      rw [e] at h
      simp only [Except.ok.injEq, Option.some.injEq] at h
      subst h
      have := cutS_len sComE (by decide) _ _ e
      simp at this; omega
  · split at h
    · cases e : cutS sPiE (t.drop 2) with
      | none => rw [e] at h; cases h
      | some u =>
        rw [e] at h
        simp only [Except.ok.injEq, Option.some.injEq] at h
        subst h
        have := cutS_len sPiE (by decide) _ _ e
        simp at this; omega
    · simp at h
theorem vaX_len {t v r : List UInt8} (h : vaX t = .ok (v, r)) : r.length < t.length := by
  unfold vaX at h
  cases e1 : needX [61] (wsX t) with
  | error e => rw [e1] at h; cases h
  | ok t1 =>
    rw [e1] at h
    simp only [] at h
    have l1 := needX_len e1
    have l2 := wsX_len t
    have l3 := wsX_len t1
    obtain ⟨q, hq⟩ : ∃ q : UInt8, q = if pre [39] (wsX t1) then 39 else 34 := ⟨_, rfl⟩
    rw [← hq] at h
    cases e2 : needX [q] (wsX t1) with
    | error e => rw [e2] at h; cases h
    | ok t2 =>
      rw [e2] at h
      simp only [] at h
      have l4 := needX_len e2
      cases e3 : toS [q] t2 with
      | none => rw [e3] at h; cases h
      | some vr =>
        obtain ⟨v', r'⟩ := vr
        rw [e3] at h
        simp only [] at h
        have l5 := toS_len (by simp) e3
        split at h
        · cases h
        split at h
        · simp only [Except.ok.injEq, Prod.mk.injEq] at h
          obtain ⟨-, rfl⟩ := h
          simp only [List.length_cons, List.length_nil] at *; omega
        · cases h
theorem asF_right (k : Nat) : ∀ (t : List UInt8) (out a : List Atr) (r : List UInt8), asF k t out = .ok (a, r) → atX out = 0 → atX a = 0 ∧ r.length ≤ t.length := by
  induction k with
  | zero => intro t out a r h ha; simp only [asF, Except.ok.injEq, Prod.mk.injEq] at h; obtain ⟨rfl, rfl⟩ := h; exact ⟨ha, Nat.le_refl _⟩
  | succ k ih =>
    intro t out a r h ha
    have l0 := wsX_len t
    unfold asF at h
    split at h
    · cases e1 : tiX (wsX t) with
      | error e => rw [e1] at h; cases h
      | ok nr =>
        obtain ⟨n, t1⟩ := nr
        rw [e1] at h
        simp only [] at h
        have l1 := (tiX_len e1).1
        cases e2 : vaX t1 with
        | error e => rw [e2] at h; cases h
        | ok vr =>
          obtain ⟨v, r'⟩ := vr
          rw [e2] at h
          simp only [] at h
          have l2 := vaX_len e2
          split at h
          · cases h
          · rename_i h2
            obtain ⟨g1, g2⟩ := ih _ _ _ _ h (Decidable.not_not.1 h2)
            exact ⟨g1, by omega⟩
    · simp only [Except.ok.injEq, Prod.mk.injEq] at h; obtain ⟨rfl, rfl⟩ := h; exact ⟨ha, l0⟩
theorem xm_right (k : Nat) : (∀ (deep : Nat) (t : List UInt8) (d : Nd) (r : List UInt8), elF k deep t = .ok (d, r) → d.n ≠ [] ∧ cxN false d = 0 ∧ deep + dpN d ≤ 9 ∧ r.length + cntN d ≤ t.length) ∧
    (∀ (deep : Nat) (t : List UInt8) (out l : List Nd) (r : List UInt8), kiF k deep t out = .ok (l, r) → cxL false out = 0 → deep + dpL out ≤ 8 → cxL false l = 0 ∧ deep + dpL l ≤ 8 ∧ r.length + cntL l ≤ t.length + cntL out) := by
  induction k with
  | zero => exact ⟨fun deep t d r h => by simp [elF] at h, fun deep t out l r h => by simp [kiF] at h⟩
  | succ k ih =>
    obtain ⟨ihe, ihk⟩ := ih
    refine ⟨fun deep t d r h => ?_, fun deep t out l r h hc hd => ?_⟩
    · unfold elF at h
      cases e0 : needX [60] t with
      | error e => rw [e0] at h; cases h
      | ok t0 =>
      rw [e0] at h
      simp only [] at h
      have l0 := needX_len e0
      cases e1 : tiX t0 with
      | error e => rw [e1] at h; cases h
      | ok nr =>
      obtain ⟨n, t1⟩ := nr
      rw [e1] at h
      simp only [] at h
      obtain ⟨l1, hn⟩ := tiX_len e1
      have hn0 := isTi_ne hn
      split at h
      · cases h
      rename_i hd
      cases e2 : atrX t1 with
      | error e => rw [e2] at h; cases h
      | ok ar =>
      obtain ⟨a, t2⟩ := ar
      rw [e2] at h
      simp only [] at h
      obtain ⟨ha, l2⟩ := asF_right _ _ _ _ _ e2 rfl
      have mk : ∀ l : List Nd, cxL false l = 0 → cxN false (.mk n a [] l) = 0 := by
        intro l hl
        simp only [cxN, nxE, if_neg hn0]
        rw [if_neg (show ¬ (([] : List UInt8) ≠ [] ∨ isTi n = false) by simp [hn])]
        simp [ha, hl, hn0]
      split at h
      · simp only [Except.ok.injEq, Prod.mk.injEq] at h
        obtain ⟨rfl, rfl⟩ := h
        refine ⟨hn0, mk [] rfl, ?_, ?_⟩
        · simp only [dpN, if_neg hn0, dpL]; omega
        · simp only [cntN, cntL, List.length_drop, List.length_cons, List.length_nil] at *; omega
      cases e3 : needX [62] t2 with
      | error e => rw [e3] at h; cases h
      | ok t3 =>
      rw [e3] at h
      simp only [] at h
      have l3 := needX_len e3
      cases e4 : kiF k deep t3 [] with
      | error e => rw [e4] at h; cases h
      | ok lr =>
      obtain ⟨l, t4⟩ := lr
      rw [e4] at h
      simp only [] at h
      obtain ⟨g1, g2, g3⟩ := ihk _ _ _ _ _ e4 rfl (by simp only [dpL]; omega)
      cases e5 : tiX t4 with
      | error e => rw [e5] at h; cases h
      | ok mr =>
      obtain ⟨m, t5⟩ := mr
      rw [e5] at h
      simp only [] at h
      have l5 := (tiX_len e5).1
      split at h
      · cases h
      cases e6 : needX [62] (wsX t5) with
      | error e => rw [e6] at h; cases h
      | ok t6 =>
      rw [e6] at h
      simp only [Except.ok.injEq, Prod.mk.injEq] at h
      obtain ⟨rfl, rfl⟩ := h
      have l6 := needX_len e6
      have l7 := wsX_len t5
      refine ⟨hn0, mk l g1, ?_, ?_⟩
      · simp only [dpN, if_neg hn0]; omega
      · simp only [cntN, cntL, List.length_cons, List.length_nil] at *; omega
    · unfold kiF at h
      split at h
      · simp only [Except.ok.injEq, Prod.mk.injEq] at h
        obtain ⟨rfl, rfl⟩ := h
        exact ⟨hc, hd, by simp only [List.length_drop]; omega⟩
      split at h
      · cases e1 : toS sCdE (t.drop 9) with
        | none => rw [e1] at h; cases h
        | some vr =>
          obtain ⟨v, r'⟩ := vr
          rw [e1] at h
          simp only [] at h
          have l1 := toS_len (by decide) e1
          obtain ⟨g1, g2, g3⟩ := ihk _ _ _ _ _ h (addT_cx _ _ hc) (by have := addT_dp out v (8 - deep) (by omega); omega)
          have := addT_cnt out v
          simp only [List.length_drop] at l1
          exact ⟨g1, g2, by omega⟩
      cases e1 : asX t with
      | error e => rw [e1] at h; cases h
      | ok o =>
      rw [e1] at h
      cases o with
      | some r' =>
        simp only [] at h
        have l1 := asX_len e1
        obtain ⟨g1, g2, g3⟩ := ihk _ _ _ _ _ h hc hd
        exact ⟨g1, g2, by omega⟩
      | none =>
        simp only [] at h
        split at h
        · cases e2 : elF k (deep + 1) t with
          | error e => rw [e2] at h; cases h
          | ok dr =>
            obtain ⟨d, r'⟩ := dr
            rw [e2] at h
            simp only [] at h
            obtain ⟨f1, f2, f3, f4⟩ := ihe _ _ _ _ e2
            obtain ⟨g1, g2, g3⟩ := ihk _ _ _ _ _ h (by rw [← pt_el _ _ f1]; exact pt_cx _ _ hc f2) (by rw [dp_app]; simp only [dpL]; omega)
            rw [cnt_app] at g3
            simp only [cntL] at g3
            exact ⟨g1, g2, by omega⟩
        · split at h
          · cases h
          rename_i hp hT
          split at h
          · cases h
          · rename_i hne
            have l1 : (t.dropWhile (· != 60)).length ≤ t.length := dw_len t
            have l2 : (Tk (t.takeWhile (· != 60))).1 = [] ∨ (t.dropWhile (· != 60)).length < t.length := by
              cases t with
              | nil => exact absurd rfl hne
              | cons c t =>
                by_cases hc60 : c = 60
                · subst hc60; exact absurd (by rfl) hp
                · right
                  have : (c != 60) = true := by simpa using hc60
                  rw [List.dropWhile_cons, if_pos this]
                  have := dw_len (p := (· != 60)) t
                  simp only [List.length_cons]; omega
            obtain ⟨g1, g2, g3⟩ := ihk _ _ _ _ _ h (addT_cx _ _ hc) (by have := addT_dp out (Tk (t.takeWhile (· != 60))).1 (8 - deep) (by omega); omega)
            refine ⟨g1, g2, ?_⟩
            rcases l2 with e | l2
            · rw [e] at g3; simp only [addT, if_true] at g3; omega
            · have := addT_cnt out (Tk (t.takeWhile (· != 60))).1; omega
theorem miF_len (k : Nat) : ∀ t r : List UInt8, miF k t = .ok r → r.length ≤ t.length := by
  induction k with
  | zero => intro t r h; simp only [miF, Except.ok.injEq] at h; subst h; exact Nat.le_refl _
  | succ k ih =>
    intro t r h
    unfold miF at h
    split at h
    · have := ih _ _ h; omega
    · cases e : asX t with
      | error e' => rw [e] at h; cases h
      | ok o =>
        rw [e] at h
        cases o with
        | none => simp only [Except.ok.injEq] at h; subst h; exact Nat.le_refl _
        | some u => have := ih _ _ h; have := asX_len e; omega
/-- What is read is right. -/
theorem XmP_right (s : List UInt8) (d : Nd) (h : XmP s = .ok d) : d.n ≠ [] ∧ cxN false d = 0 ∧ dpN d ≤ 8 ∧ cntN d ≤ s.length := by
  unfold XmP at h
  cases e0 : miX s with
  | error e => rw [e0] at h; cases h
  | ok t =>
  rw [e0] at h
  simp only [] at h
  cases e1 : elF (2 * t.length + 2) 1 t with
  | error e => rw [e1] at h; cases h
  | ok dr =>
  obtain ⟨d', r⟩ := dr
  rw [e1] at h
  simp only [] at h
  obtain ⟨f1, f2, f3, f4⟩ := (xm_right _).1 _ _ _ _ e1
  have := miF_len _ _ _ e0
  cases e2 : miX r with
  | error e => rw [e2] at h; cases h
  | ok t2 =>
  rw [e2] at h
  simp only [] at h
  split at h
  · cases h; exact ⟨f1, f2, by omega, by omega⟩
  · cases h
/-- A text in an element. -/
theorem XmP_text (s : List UInt8) (hs : s ≠ []) : XmP ([60, 114, 32, 97, 61, 34] ++ PutL s ++ [34, 62] ++ PutL s ++ [60, 47, 114, 62]) = .ok (.mk [114] [([97], s)] [] [.mk [] [] s []]) := by
  have := XmP_written (.mk [114] [([97], s)] [] [.mk [] [] s []]) (by simp [Nd.n]) (by simp [cxN, nxE, cxL, hs, isTi, tiB1, ltr, lwr, atX, atXF]) (by simp [dpN, dpL])
  rw [← this]
  simp [wrX, wrL, atW]
theorem cutS_cd (s r : List UInt8) (h : ∀ i, pre sCdE (s.drop i) = false) : cutS sCdE (s ++ sCdE ++ r) = some r := by
  induction s with
  | nil => simp [cutS, sCdE, pre]
  | cons c s ih =>
    have h0 := h 0
    simp only [List.drop_zero] at h0
    have hp : pre sCdE (c :: (s ++ sCdE ++ r)) = false := by
      cases s with
      | nil => simp [sCdE, pre, List.isPrefixOf]
      | cons c2 s =>
        cases s with
        | nil => simp [sCdE, pre, List.isPrefixOf]
        | cons c3 s => simpa [sCdE, pre, List.isPrefixOf] using h0
    rw [List.cons_append, List.cons_append, cutS, if_neg (by rw [hp]; decide), ih (fun i => by simpa using h (i + 1))]
theorem XmP_cdata (s : List UInt8) (hs : s ≠ []) (h : ∀ i, pre sCdE (s.drop i) = false) : XmP ([60, 114, 62] ++ sCd ++ s ++ sCdE ++ [60, 47, 114, 62]) = .ok (.mk [114] [] [] [.mk [] [] s []]) := by
  obtain ⟨T, hT⟩ : ∃ T, T = sCd ++ s ++ sCdE ++ [60, 47, 114, 62] := ⟨_, rfl⟩
  have e : [60, 114, 62] ++ sCd ++ s ++ sCdE ++ [60, 47, 114, 62] = 60 :: 114 :: 62 :: T := by rw [hT]; simp
  have hk : ∀ k, kiF (k + 2) 1 T [] = .ok ([.mk [] [] s []], [114, 62]) := by
    intro k
    rw [kiF, if_neg (by rw [hT]; unfold sCd; simp only [List.cons_append]; rw [pre_cons, pre_off (by decide)]; decide), if_pos (by rw [hT, List.append_assoc, List.append_assoc]; exact pre_app _ _)]
    have e1 : T.drop 9 = s ++ sCdE ++ [60, 47, 114, 62] := by rw [hT]; simp [sCd]
    have : toS sCdE (T.drop 9) = some (s, [60, 47, 114, 62]) := by
      unfold toS
      rw [e1, cutS_cd s _ h]
      simp [sCdE]
    rw [this]
    simp only [addT, if_neg hs]
    rw [kiF, if_pos (by decide)]
    simp [pt]
  rw [e]
  unfold XmP
  have hm : miX (60 :: 114 :: 62 :: T) = .ok (60 :: 114 :: 62 :: T) := miX_no (by decide) (by unfold asX sCom sPi; rw [if_neg (by rw [pre_cons, pre_off (by decide)]; decide), if_neg (by rw [pre_cons, pre_off (by decide)]; decide)])
  rw [hm]
  simp only []
  have : elF (2 * (60 :: 114 :: 62 :: T).length + 2) 1 (60 :: 114 :: 62 :: T) = .ok (.mk [114] [] [] [.mk [] [] s []], []) := by
    have hti : tiX (114 :: 62 :: T) = .ok ([114], 62 :: T) := tiX_of (n := [114]) (by decide) 62 (by decide) T
    rw [elF, show (60 :: 114 :: 62 :: T : List UInt8) = [60] ++ (114 :: 62 :: T) from rfl, needX_app]
    simp only []
    rw [hti]
    simp only []
    rw [if_neg (by omega)]
    have ha : atrX (62 :: T) = .ok ([], 62 :: T) := by
      unfold atrX
      have := asF_written [] (62 :: T).length [] 62 T (by simp) rfl (by decide)
      simpa [atW] using this
    rw [ha]
    simp only []
    rw [if_neg (by rw [pre_off (by decide)]; decide), show (62 :: T : List UInt8) = [62] ++ T from rfl, needX_app]
    simp only []
    rw [show 2 * ([60] ++ (114 :: ([62] ++ T)) : List UInt8).length + 1 = (2 * T.length + 5) + 2 by simp; omega, hk]
    simp only []
    rw [show ([114, 62] : List UInt8) = [114] ++ 62 :: [] from rfl, tiX_of (by decide) _ (by decide)]
    simp only []
    rw [if_neg (by simp), wsX_no (by decide), show needX [62] (62 :: []) = .ok [] from rfl]
  rw [this]
  rfl
end Go.Proofs.YtkacjnifhmgeiaaGreatDoor

namespace Go.Proofs.YtkacjnifhmgeiaaGreatDoor
open Go.RowKit

theorem miF_eq : ∀ n t, t.length ≤ n → ∀ k j, t.length ≤ k → t.length ≤ j → miF k t = miF j t := by
  intro n
  induction n with
  | zero =>
    intro t ht k j _ _
    obtain rfl := List.eq_nil_of_length_eq_zero (Nat.le_zero.1 ht)
    have h : ∀ k, miF k [] = .ok [] := fun k => by cases k <;> rfl
    rw [h, h]
  | succ n ih =>
    intro t ht k j hk hj
    cases t with
    | nil =>
      have h : ∀ k, miF k [] = .ok [] := fun k => by cases k <;> rfl
      rw [h, h]
    | cons c r =>
      obtain ⟨k, rfl⟩ : ∃ m, k = m + 1 := ⟨k - 1, by simp only [List.length_cons] at hk; omega⟩
      obtain ⟨j, rfl⟩ : ∃ m, j = m + 1 := ⟨j - 1, by simp only [List.length_cons] at hj; omega⟩
      unfold miF
      split
      · exact ih _ (by omega) _ _ (by omega) (by omega)
      · cases e : asX (c :: r) with
        | error e' => rfl
        | ok o =>
          cases o with
          | none => rfl
          | some u => have := asX_len e; exact ih _ (by omega) _ _ (by omega) (by omega)
theorem miX_ws {t : List UInt8} (h : (wsX t).length < t.length) : miX t = miX (wsX t) := by
  obtain ⟨m, hm⟩ : ∃ m, t.length = m + 1 := ⟨t.length - 1, by omega⟩
  unfold miX
  rw [hm]
  conv => lhs; unfold miF
  rw [if_pos h]
  exact miF_eq _ _ (Nat.le_refl _) _ _ (by omega) (Nat.le_refl _)
theorem miX_as {t : List UInt8} (h : ¬ (wsX t).length < t.length) : miX t = match asX t with
    | .error e => .error e
    | .ok none => .ok t
    | .ok (some r) => miX r := by
  cases t with
  | nil => rfl
  | cons c r =>
    unfold miX
    rw [show (c :: r).length = r.length + 1 from rfl]
    conv => lhs; unfold miF
    rw [if_neg h]
    cases e : asX (c :: r) with
    | error e' => rfl
    | ok o =>
      cases o with
      | none => rfl
      | some u => have := asX_len e; exact miF_eq _ _ (Nat.le_refl _) _ _ (by simp only [List.length_cons] at this; omega) (Nat.le_refl _)
theorem wsX_twice (t : List UInt8) : wsX (wsX t) = wsX t := by
  unfold wsX
  induction t with
  | nil => rfl
  | cons c r ih =>
    by_cases h : blk c = true
    · simp [h, ih]
    · simp [h]
/-- White bytes are passed, and it is seen whether there were some. -/
theorem miX_as2 (t : List UInt8) (h : (wsX t).length = t.length) : wsX t = t := by
  have h2 := (List.dropWhile_suffix blk (l := t))
  exact h2.eq_of_length h

theorem asF_eq (j : Nat) (t : List UInt8) (out : List Atr) (h : t.length ≤ j) : asF j t out =
    if (wsX t).length < t.length ∧ ((wsX t).head?.map tiB1).getD false = true then
      match tiX (wsX t) with
      | .error e => .error e
      | .ok (n, t1) => match vaX t1 with
        | .error e => .error e
        | .ok (v, r) => if atX (out ++ [(n, v)]) ≠ 0 then .error 6 else asF (j - 1) r (out ++ [(n, v)])
    else .ok (out, wsX t) := by
  cases j with
  | zero =>
    obtain rfl := List.eq_nil_of_length_eq_zero (Nat.le_zero.1 h)
    rfl
  | succ j => rfl

/-- A byte of a title, at its place. -/
def tiBy (f : Bool) (c : UInt8) : Bool := if f then tiB1 c else tiB c
theorem isTi_pos (l : List UInt8) (hp : ∀ i (h : i < l.length), tiBy (decide (i = 0)) l[i] = true) (hl : l.length ≤ 20) (h0 : l ≠ []) : isTi l = true := by
  cases l with
  | nil => exact absurd rfl h0
  | cons c r =>
    have h1 := hp 0 (by simp)
    simp only [List.getElem_cons_zero, tiBy, decide_true, if_true] at h1
    simp only [isTi, h1, Bool.true_and, Bool.and_eq_true, decide_eq_true_eq, List.all_eq_true]
    refine ⟨fun x hx => ?_, by simpa using hl⟩
    obtain ⟨i, hi, rfl⟩ := List.mem_iff_getElem.1 hx
    have := hp (i + 1) (by simpa using hi)
    simpa [tiBy] using this
theorem isTi_no (l : List UInt8) (i : Nat) (h : i < l.length) (hp : tiBy (decide (i = 0)) l[i] = false) : isTi l = false := by
  cases l with
  | nil => rfl
  | cons c r =>
    cases i with
    | zero => simp only [List.getElem_cons_zero, tiBy, decide_true, if_true] at hp; simp [isTi, hp]
    | succ i =>
      have hi : i < r.length := by simpa using h
      have hp' : tiB r[i] = false := by simpa [tiBy] using hp
      have : r.all tiB = false := by rw [List.all_eq_false]; exact ⟨r[i], List.getElem_mem _, by simpa using hp'⟩
      simp [isTi, this]
theorem isTi_long (l : List UInt8) (h : 20 < l.length ∨ l = []) : isTi l = false := by
  cases l with
  | nil => rfl
  | cons c r =>
    rcases h with h | h
    · simp only [List.length_cons] at h
      have : ¬ r.length ≤ 19 := by omega
      simp [isTi, this]
    · cases h
theorem tiS_cons (c : UInt8) (r : List UInt8) : tiS (c :: r) = if tiB1 c then (c :: r.takeWhile tiB, r.dropWhile tiB) else ([], c :: r) := rfl
theorem tiS_app (t : List UInt8) : (tiS t).1 ++ (tiS t).2 = t := by
  cases t with
  | nil => rfl
  | cons c r =>
    rw [tiS_cons]
    split
    · simp [List.takeWhile_append_dropWhile]
    · rfl
theorem tiS_in (t : List UInt8) (j : Nat) (h : j < (tiS t).1.length) : ∃ h : j < t.length, tiBy (decide (j = 0)) t[j] = true := by
  cases t with
  | nil => simp [tiS] at h
  | cons c r =>
    rw [tiS_cons] at h
    split at h
    · rename_i hc
      cases j with
      | zero => exact ⟨by simp, by simpa [tiBy] using hc⟩
      | succ j =>
        simp only [List.length_cons, Nat.add_lt_add_iff_right] at h
        have h2 : (r.takeWhile tiB).length ≤ r.length := (List.takeWhile_prefix tiB).length_le
        refine ⟨by simp only [List.length_cons]; omega, ?_⟩
        have h3 : (r.takeWhile tiB)[j] = r[j]'(by omega) := by
          have := List.takeWhile_prefix tiB (l := r)
          exact this.getElem h
        have h4 : tiB (r.takeWhile tiB)[j] = true := mem_tw (List.getElem_mem h)
        rw [h3] at h4
        simpa [tiBy] using h4
    · simp at h
theorem tiS_out (t : List UInt8) (h : (tiS t).1.length < t.length) : tiBy (decide ((tiS t).1.length = 0)) t[(tiS t).1.length] = false := by
  cases t with
  | nil => simp at h
  | cons c r =>
    by_cases hc : tiB1 c = true
    · have e : (tiS (c :: r)).1 = c :: r.takeWhile tiB := by rw [tiS_cons, if_pos hc]
      simp only [e] at h ⊢
      simp only [List.length_cons, Nat.add_lt_add_iff_right] at h
      have h5 := List.takeWhile_append_dropWhile (p := tiB) (l := r)
      have h6 : ∃ d u, r.dropWhile tiB = d :: u ∧ tiB d = false := by
        cases hd : r.dropWhile tiB with
        | nil => rw [hd, List.append_nil] at h5; rw [h5] at h; omega
        | cons d u =>
          refine ⟨d, u, rfl, ?_⟩
          have := List.head_dropWhile_not tiB (l := r) (by rw [hd]; simp)
          simpa [hd] using this
      obtain ⟨d, u, hd, hdb⟩ := h6
      have h7 : r[(r.takeWhile tiB).length]'h = d := by
        rw [hd] at h5
        have h8 : (r.takeWhile tiB ++ d :: u)[(r.takeWhile tiB).length]? = some d := by simp
        rw [h5, List.getElem?_eq_getElem h] at h8
        exact Option.some.inj h8
      simp [tiBy, h7, hdb]
    · have e : (tiS (c :: r)).1 = [] := by rw [tiS_cons, if_neg hc]
      simp only [e]
      simpa [tiBy] using hc
end Go.Proofs.YtkacjnifhmgeiaaGreatDoor

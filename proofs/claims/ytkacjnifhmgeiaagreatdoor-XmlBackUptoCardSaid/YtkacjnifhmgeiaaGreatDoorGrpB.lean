/- Tokens: what reading, checking and printing answer, said by plain functions. · Trees: what building, checking and flattening answer, said by plain functions; plain laws. · Documents: what reading, checking and printing answer, said by plain functions. -/
import Derived.Test.YtkacjnifhmgeiaaGreatDoorGrpA
import Derived.Test.YtkacjnifhmgeiaaGreatDoorTokZ
namespace Go.Proofs.YtkacjnifhmgeiaaGreatDoor
open Go.RowKit

/-- Name and value. -/
abbrev Atr := List UInt8 × List UInt8
/-- Kind, name, attributes, text. -/
abbrev Tok := Int × List UInt8 × List Atr × List UInt8

/-- Behind the first such text; none: there is none. -/
def cutS (p : List UInt8) : List UInt8 → Option (List UInt8)
  | [] => none
  | c :: r => if pre p (c :: r) then some ((c :: r).drop p.length) else cutS p r
/-- A value behind a =, as it stands, and what stands behind it. -/
def valOf (t : List UInt8) : Option (List UInt8 × List UInt8) :=
  match t.dropWhile wht with
  | [] => some ([], [])
  | q :: r => if q = 34 ∨ q = 39 then (match r.dropWhile (· != q) with | [] => none | _ :: s => some (r.takeWhile (· != q), s)) else some ((q :: r).takeWhile vch, (q :: r).dropWhile vch)
/-- An attribute that begins with a byte. -/
def oneAt (c : UInt8) (r : List UInt8) : Option (Atr × List UInt8) :=
  match (r.dropWhile nch).dropWhile wht with
  | [] => some ((fold (c :: r.takeWhile nch), []), [])
  | d :: s => if d = 61 then (match valOf s with | none => none | some (v, u) => some ((fold (c :: r.takeWhile nch), (Tk v).1), u)) else some ((fold (c :: r.takeWhile nch), []), d :: s)
def addA (out : List Atr) (a : Atr) : List Atr := if isNm a.1 && !(out.any fun x => x.1 == a.1) then out ++ [a] else out
def atF : Nat → List UInt8 → List Atr → Option (List Atr × List UInt8)
  | 0, _, _ => none
  | k + 1, t, out => match t.dropWhile wsl with
    | [] => none
    | c :: r => if c = 62 then some (out, r) else match oneAt c r with
      | none => none
      | some (a, u) => atF k u (addA out a)
def atP (t : List UInt8) (out : List Atr) : Option (List Atr × List UInt8) := atF (t.length + 1) t out

theorem dw_len {p : UInt8 → Bool} (l : List UInt8) : (l.dropWhile p).length ≤ l.length := (List.dropWhile_suffix p).length_le
theorem cutS_len (p : List UInt8) (hp : 0 < p.length) : ∀ l r : List UInt8, cutS p l = some r → r.length < l.length := by
  intro l
  induction l with
  | nil => intro r h; simp [cutS] at h
  | cons c l ih =>
    intro r h
    unfold cutS at h
    split at h
    · cases h; simp; omega
    · have := ih r h; simp; omega
theorem valOf_len (t : List UInt8) (v u : List UInt8) (h : valOf t = some (v, u)) : u.length ≤ t.length ∧ v.length ≤ t.length := by
  have h1 := dw_len (p := wht) t
  unfold valOf at h
  split at h
  · simp only [Option.some.injEq, Prod.mk.injEq] at h; obtain ⟨rfl, rfl⟩ := h; simp
  · rename_i q r e
    rw [e] at h1
    simp only [List.length_cons] at h1
    split at h
    · have h2 := dw_len (p := (· != q)) r
      split at h
      · cases h
      · rename_i x s e2
        rw [e2] at h2
        simp only [Option.some.injEq, Prod.mk.injEq] at h; obtain ⟨rfl, rfl⟩ := h
        have h3 : (r.takeWhile (· != q)).length ≤ r.length := (List.takeWhile_prefix _).length_le
        simp only [List.length_cons] at h2; omega
    · simp only [Option.some.injEq, Prod.mk.injEq] at h; obtain ⟨rfl, rfl⟩ := h
      have h2 := dw_len (p := vch) (q :: r)
      have h3 : ((q :: r).takeWhile vch).length ≤ (q :: r).length := (List.takeWhile_prefix _).length_le
      simp only [List.length_cons] at h2 h3 ⊢; omega
theorem oneAt_len (c : UInt8) (r : List UInt8) (a : Atr) (u : List UInt8) (h : oneAt c r = some (a, u)) : u.length ≤ r.length := by
  have h1 := dw_len (p := wht) (r.dropWhile nch)
  have h2 := dw_len (p := nch) r
  unfold oneAt at h
  split at h
  · simp only [Option.some.injEq, Prod.mk.injEq] at h; obtain ⟨_, rfl⟩ := h; simp
  · rename_i d s e
    rw [e] at h1
    simp only [List.length_cons] at h1
    split at h
    · split at h
      · cases h
      · rename_i v w e2
        simp only [Option.some.injEq, Prod.mk.injEq] at h; obtain ⟨_, rfl⟩ := h
        have := (valOf_len _ _ _ e2).1; omega
    · simp only [Option.some.injEq, Prod.mk.injEq] at h; obtain ⟨_, rfl⟩ := h
      simp only [List.length_cons]; omega
theorem atF_two (k : Nat) : ∀ (j : Nat) (t : List UInt8) (out : List Atr), t.length < k → t.length < j → atF k t out = atF j t out := by
  induction k with
  | zero => intro j t out h; omega
  | succ k ih =>
    intro j t out h h'
    cases j with
    | zero => omega
    | succ j =>
      have h1 := dw_len (p := wsl) t
      unfold atF
      split
      · rfl
      · rename_i c r e
        rw [e] at h1
        simp only [List.length_cons] at h1
        split
        · rfl
        · split
          · rfl
          · rename_i a u e2
            have := oneAt_len c r a u e2
            exact ih j u _ (by omega) (by omega)
theorem atF_eq (k : Nat) (t : List UInt8) (out : List Atr) (h : t.length < k) : atF k t out = atP t out := atF_two k _ t out h (Nat.lt_succ_self _)
theorem atP_nil {t : List UInt8} {out : List Atr} (h : t.dropWhile wsl = []) : atP t out = none := by
  unfold atP atF; rw [h]
theorem atP_end {t r : List UInt8} {out : List Atr} (h : t.dropWhile wsl = 62 :: r) : atP t out = some (out, r) := by
  unfold atP atF; rw [h]; rfl
theorem atP_no {t r : List UInt8} {c : UInt8} {out : List Atr} (h : t.dropWhile wsl = c :: r) (hc : c ≠ 62) (h2 : oneAt c r = none) : atP t out = none := by
  unfold atP atF; rw [h]; simp only [if_neg hc, h2]
theorem atP_go {t r u : List UInt8} {c : UInt8} {a : Atr} {out : List Atr} (h : t.dropWhile wsl = c :: r) (hc : c ≠ 62) (h2 : oneAt c r = some (a, u)) : atP t out = atP u (addA out a) := by
  have h1 := dw_len (p := wsl) t
  have h3 := oneAt_len c r a u h2
  rw [h] at h1
  simp only [List.length_cons] at h1
  conv => lhs; unfold atP atF
  rw [h]; simp only [if_neg hc, h2]
  exact atF_eq _ _ _ (by omega)
theorem atF_len (k : Nat) : ∀ (t : List UInt8) (out l : List Atr) (r : List UInt8), atF k t out = some (l, r) → r.length < t.length := by
  induction k with
  | zero => intro t out l r h; simp [atF] at h
  | succ k ih =>
    intro t out l r h
    have h1 := dw_len (p := wsl) t
    unfold atF at h
    split at h
    · cases h
    · rename_i c s e
      rw [e] at h1
      simp only [List.length_cons] at h1
      split at h
      · simp only [Option.some.injEq, Prod.mk.injEq] at h; obtain ⟨_, rfl⟩ := h; omega
      · split at h
        · cases h
        · rename_i a u e2
          have h3 := oneAt_len c s a u e2
          have := ih u _ l r h; omega

/-- What stands behind a <: none: nothing that is known; some none: it has no end; else a token or none, and what stands behind it. -/
def tagP : List UInt8 → Option (Option (Option Tok × List UInt8))
  | [] => none
  | c :: r =>
    if ltr c then some ((atP ((c :: r).dropWhile tch) []).map fun x => (some (2, fold ((c :: r).takeWhile tch), x.1, []), x.2))
    else if c = 47 ∧ (r.head?.map ltr).getD false = true then some ((cutS [62] (r.dropWhile tch)).map fun x => (some (3, fold (r.takeWhile tch), [], []), x))
    else if pre [33, 45, 45] (c :: r) then some ((cutS [45, 45, 62] r).map fun x => (none, x))
    else if c = 33 ∨ c = 63 ∨ c = 47 then some ((cutS [62] (c :: r)).map fun x => (none, x))
    else none
theorem tagP_cons (c : UInt8) (r : List UInt8) : tagP (c :: r) =
    if ltr c then some ((atP ((c :: r).dropWhile tch) []).map fun x => (some (2, fold ((c :: r).takeWhile tch), x.1, []), x.2))
    else if c = 47 ∧ (r.head?.map ltr).getD false = true then some ((cutS [62] (r.dropWhile tch)).map fun x => (some (3, fold (r.takeWhile tch), [], []), x))
    else if pre [33, 45, 45] (c :: r) then some ((cutS [45, 45, 62] r).map fun x => (none, x))
    else if c = 33 ∨ c = 63 ∨ c = 47 then some ((cutS [62] (c :: r)).map fun x => (none, x))
    else none := rfl
theorem tagP_len (t : List UInt8) (o : Option Tok) (r : List UInt8) (h : tagP t = some (some (o, r))) : r.length ≤ t.length := by
  unfold tagP at h
  split at h
  · cases h
  · rename_i c s
    have h1 := dw_len (p := tch) (c :: s)
    have h2 := dw_len (p := tch) s
    split at h
    · cases e : atP ((c :: s).dropWhile tch) [] with
      | none => rw [e] at h; simp at h
      | some x =>
        rw [e] at h
        simp only [Option.map_some, Option.some.injEq, Prod.mk.injEq] at h
        obtain ⟨_, rfl⟩ := h
        have := atF_len _ _ _ _ _ e
        simp only [List.length_cons] at *; omega
    split at h
    · cases e : cutS [62] (s.dropWhile tch) with
      | none => rw [e] at h; simp at h
      | some x =>
        rw [e] at h
        simp only [Option.map_some, Option.some.injEq, Prod.mk.injEq] at h
        obtain ⟨_, rfl⟩ := h
        have := cutS_len [62] (by simp) _ _ e
        simp only [List.length_cons] at *; omega
    split at h
    · cases e : cutS [45, 45, 62] s with
      | none => rw [e] at h; simp at h
      | some x =>
        rw [e] at h
        simp only [Option.map_some, Option.some.injEq, Prod.mk.injEq] at h
        obtain ⟨_, rfl⟩ := h
        have := cutS_len [45, 45, 62] (by simp) _ _ e
        simp only [List.length_cons] at *; omega
    split at h
    · cases e : cutS [62] (c :: s) with
      | none => rw [e] at h; simp at h
      | some x =>
        rw [e] at h
        simp only [Option.map_some, Option.some.injEq, Prod.mk.injEq] at h
        obtain ⟨_, rfl⟩ := h
        have := cutS_len [62] (by simp) _ _ e
        omega
    · cases h

/-- The text since the last tag, as a token. -/
def flsh (text : List UInt8) (out : List Tok) : List Tok := if (Tk text).1 = [] then out else out ++ [(1, [], [], (Tk text).1)]
def tkF : Nat → List UInt8 → List UInt8 → List Tok → List Tok
  | 0, _, text, out => flsh text out
  | _ + 1, [], text, out => flsh text out
  | k + 1, c :: r, text, out =>
    if c = 60 then match tagP r with
      | none => tkF k r (text ++ [60]) out
      | some none => flsh (text ++ 60 :: r) out
      | some (some (none, u)) => tkF k u text out
      | some (some (some t, u)) => if isNm t.2.1 then tkF k u [] (flsh text out ++ [t]) else tkF k u text out
    else tkF k r (text ++ [c]) out
def tkP (s text : List UInt8) (out : List Tok) : List Tok := tkF s.length s text out
/-- All tokens of a text. -/
def TokL (s : List UInt8) : List Tok := tkP s [] []
theorem tkF_two (k : Nat) : ∀ (j : Nat) (s text : List UInt8) (out : List Tok), s.length ≤ k → s.length ≤ j → tkF k s text out = tkF j s text out := by
  induction k with
  | zero =>
    intro j s text out h _
    obtain rfl := List.eq_nil_of_length_eq_zero (Nat.le_zero.1 h)
    cases j <;> rfl
  | succ k ih =>
    intro j s text out h h'
    cases s with
    | nil => cases j <;> rfl
    | cons c r =>
      cases j with
      | zero => simp at h'
      | succ j =>
        simp only [List.length_cons, Nat.add_le_add_iff_right] at h h'
        unfold tkF
        split
        · split
          · exact ih j _ _ _ h h'
          · rfl
          · rename_i u e
            have := tagP_len _ _ _ e
            exact ih j _ _ _ (by omega) (by omega)
          · rename_i t u e
            have := tagP_len _ _ _ e
            split <;> exact ih j _ _ _ (by omega) (by omega)
        · exact ih j _ _ _ h h'
theorem tkF_eq (k : Nat) (s text : List UInt8) (out : List Tok) (h : s.length ≤ k) : tkF k s text out = tkP s text out := tkF_two k _ s text out h (Nat.le_refl _)
theorem tkP_nil (text : List UInt8) (out : List Tok) : tkP [] text out = flsh text out := rfl
theorem tkP_plain (c : UInt8) (r text : List UInt8) (out : List Tok) (h : c ≠ 60) : tkP (c :: r) text out = tkP r (text ++ [c]) out := by
  conv => lhs; unfold tkP; rw [List.length_cons]; unfold tkF
  rw [if_neg h]; rfl
theorem tkP_run (p r text : List UInt8) (out : List Tok) (h : 60 ∉ p) : tkP (p ++ r) text out = tkP r (text ++ p) out := by
  induction p generalizing text with
  | nil => simp
  | cons c p ih =>
    simp only [List.mem_cons, not_or] at h
    rw [List.cons_append, tkP_plain _ _ _ _ (fun e => h.1 e.symm), ih _ h.2]; simp
theorem tkP_lone (r text : List UInt8) (out : List Tok) (h : tagP r = none) : tkP (60 :: r) text out = tkP r (text ++ [60]) out := by
  conv => lhs; unfold tkP; rw [List.length_cons]; unfold tkF
  rw [if_pos rfl, h]; rfl
theorem tkP_open (r text : List UInt8) (out : List Tok) (h : tagP r = some none) : tkP (60 :: r) text out = flsh (text ++ 60 :: r) out := by
  conv => lhs; unfold tkP; rw [List.length_cons]; unfold tkF
  rw [if_pos rfl, h]
theorem tkP_skip (r u text : List UInt8) (out : List Tok) (h : tagP r = some (some (none, u))) : tkP (60 :: r) text out = tkP u text out := by
  have := tagP_len _ _ _ h
  conv => lhs; unfold tkP; rw [List.length_cons]; unfold tkF
  rw [if_pos rfl, h]; exact tkF_eq _ _ _ _ this
theorem tkP_tag (r u text : List UInt8) (t : Tok) (out : List Tok) (h : tagP r = some (some (some t, u))) (hn : isNm t.2.1 = true) : tkP (60 :: r) text out = tkP u [] (flsh text out ++ [t]) := by
  have := tagP_len _ _ _ h
  conv => lhs; unfold tkP; rw [List.length_cons]; unfold tkF
  rw [if_pos rfl, h]; simp only [hn, if_true]; exact tkF_eq _ _ _ _ this
theorem tkP_tagno (r u text : List UInt8) (t : Tok) (out : List Tok) (h : tagP r = some (some (some t, u))) (hn : isNm t.2.1 = false) : tkP (60 :: r) text out = tkP u text out := by
  have := tagP_len _ _ _ h
  conv => lhs; unfold tkP; rw [List.length_cons]; unfold tkF
  rw [if_pos rfl, h]; simp only [hn, Bool.false_eq_true, if_false]; exact tkF_eq _ _ _ _ this

/-- What is wrong with attributes; with one token; with tokens. -/
def atEF : List Atr → List Atr → Int
  | _, [] => 0
  | p, a :: l => if isNm a.1 = false then 1 else if (p.any fun x => x.1 == a.1) then 6 else atEF (p ++ [a]) l
def atE (l : List Atr) : Int := atEF [] l
def tkE (t : Tok) : Int :=
  if t.1 < 1 ∨ 3 < t.1 then 7
  else if t.1 = 1 ∧ (t.2.1 ≠ [] ∨ t.2.2.1 ≠ [] ∨ t.2.2.2 = []) ∨ t.1 ≠ 1 ∧ t.2.2.2 ≠ [] ∨ t.1 = 3 ∧ t.2.2.1 ≠ [] then 1
  else if t.1 = 1 then 0 else if isNm t.2.1 = false then 1 else atE t.2.2.1
def tkEF : Int → List Tok → Int
  | _, [] => 0
  | k, t :: l => if tkE t ≠ 0 then tkE t else if t.1 = 1 ∧ k = 1 then 4 else tkEF t.1 l
/-- CheckTokens. -/
def ckE (l : List Tok) : Int := if 3000 < l.length then 2 else tkEF 0 l
/-- Attributes, a token, tokens as they are written. -/
def atW (l : List Atr) : List UInt8 := l.flatMap fun a => 32 :: a.1 ++ [61, 34] ++ PutL a.2 ++ [34]
def tkW (t : Tok) : List UInt8 := if t.1 = 1 then PutL t.2.2.2 else if t.1 = 2 then 60 :: t.2.1 ++ atW t.2.2.1 ++ [62] else if t.1 = 3 then [60, 47] ++ t.2.1 ++ [62] else []
def tksW (l : List Tok) : List UInt8 := l.flatMap tkW
end Go.Proofs.YtkacjnifhmgeiaaGreatDoor

namespace Go.Proofs.YtkacjnifhmgeiaaGreatDoor
open Go.RowKit

theorem isNm_ne {n : List UInt8} (h : isNm n = true) : n ≠ [] := by rintro rfl; simp [isNm] at h
/-- A node: its name (a text has none), attributes, text, kids. -/
inductive Nd where
  | mk (n : List UInt8) (a : List Atr) (x : List UInt8) (k : List Nd)
def Nd.n : Nd → List UInt8 | .mk n _ _ _ => n
def Nd.a : Nd → List Atr | .mk _ a _ _ => a
def Nd.x : Nd → List UInt8 | .mk _ _ x _ => x
def Nd.k : Nd → List Nd | .mk _ _ _ k => k
theorem Nd.ind {P : List Nd → Prop} (h0 : P []) (h1 : ∀ n a x k l, P k → P l → P (.mk n a x k :: l)) (l : List Nd) : P l :=
  Nd.rec_1 (motive_1 := fun d => P d.k) (motive_2 := P) (fun _ _ _ _ ih => ih) h0 (fun d l i1 i2 => by cases d; exact h1 _ _ _ _ _ i1 i2) l

abbrev Nm := List UInt8
def sP : Nm := [112]
def sLi : Nm := [108, 105]
def sUl : Nm := [117, 108]
def sOl : Nm := [111, 108]
def sBq : Nm := [98, 108, 111, 99, 107, 113, 117, 111, 116, 101]
def sBr : Nm := [98, 114]
def sHr : Nm := [104, 114]
def sImg : Nm := [105, 109, 103]
def emptyN (n : Nm) : Bool := decide (n = sBr) || decide (n = sHr) || decide (n = sImg)
def ulolN (n : Nm) : Bool := decide (n = sUl) || decide (n = sOl)
def wallN (n : Nm) : Bool := decide (n = sUl) || decide (n = sOl) || decide (n = sLi) || decide (n = sBq)
def blkN (n : Nm) : Bool := wallN n || decide (n = sP) || decide (n = sHr)
/-- Of names that stand in one another, the innermost first: how many stand about the innermost one of a name with none within it that stops. -/
def abv (nm : Nm) (stop : Nm → Bool) : List Nm → Option Nat
  | [] => none
  | x :: r => if x = nm then some r.length else if stop x then none else abv nm stop r
def cls1 (r : List Nm) (nm : Nm) : Nat := if blkN nm then (abv sP wallN r).getD r.length else r.length
/-- How many stay open where one opens. -/
def cls (r : List Nm) (nm : Nm) : Nat := if nm = sLi then (abv sLi ulolN (r.drop (r.length - cls1 r nm))).getD (cls1 r nm) else cls1 r nm

/-- A node behind others; texts side by side are one. -/
def pt (l : List Nd) (d : Nd) : List Nd :=
  match l.getLast? with
  | some (.mk [] a x k) => if d.n = [] then l.dropLast ++ [.mk [] a (x ++ d.x) k] else l ++ [d]
  | _ => l ++ [d]

/-- The builder: nodes of the whole; those that are open, the innermost first: name, attributes, nodes. -/
abbrev St := List Nd × List (Nm × List Atr × List Nd)
def put (s : St) (d : Nd) : St := match s with
  | (r, []) => (pt r d, [])
  | (r, (n, a, k) :: f) => (r, (n, a, pt k d) :: f)
def pop (s : St) : St := match s with
  | (r, []) => (r, [])
  | (r, (n, a, k) :: f) => put (r, f) (.mk n a [] k)
def pops : Nat → St → St
  | 0, s => s
  | j + 1, s => pops j (pop s)
def nms (s : St) : List Nm := s.2.map (·.1)
def opn (s : St) (n : Nm) (a : List Atr) : St :=
  if s.2.length = 8 then s else if emptyN n then put s (.mk n a [] []) else (s.1, (n, a, []) :: s.2)
def stp (s : St) (t : Tok) : St :=
  if t.1 = 1 then put s (.mk [] [] t.2.2.2 [])
  else if t.1 = 2 then opn (pops (s.2.length - cls (nms s) t.2.1) s) t.2.1 t.2.2.1
  else if t.1 = 3 then (match abv t.2.1 (fun _ => false) (nms s) with | some i => pops (s.2.length - i) s | none => s)
  else s
def fin (s : St) : List Nd := (pops s.2.length s).1
/-- The tree of tokens. -/
def ofM (l : List Tok) : List Nd := fin (l.foldl stp ([], []))

mutual
def fltN : Nd → List Tok
  | .mk n a x k => if n = [] then [(1, [], [], x)] else (2, n, a, []) :: (if emptyN n then [] else fltL k ++ [(3, n, [], [])])
/-- The tokens of a tree. -/
def fltL : List Nd → List Tok
  | [] => []
  | d :: l => fltN d ++ fltL l
end
mutual
def manyN (f : Nat) : Nd → Nat
  | .mk n _ _ k => if n = [] then 1 else match f with | 0 => 1 | f + 1 => 1 + manyL f k
def manyL (f : Nat) : List Nd → Nat
  | [] => 0
  | d :: l => manyN f d + manyL f l
end
mutual
def deepN (f : Nat) : Nd → Nat
  | .mk n _ _ k => if n = [] then 0 else match f with | 0 => 1 | f + 1 => 1 + deepL f k
def deepL (f : Nat) : List Nd → Nat
  | [] => 0
  | d :: l => max (deepN f d) (deepL f l)
end
/-- What is wrong with a node by itself. -/
def ndE (r : List Nm) : Nd → Int
  | .mk n a x k => if n = [] then (if x = [] ∨ a ≠ [] ∨ k ≠ [] then 1 else 0)
    else if x ≠ [] ∨ isNm n = false ∨ (emptyN n = true ∧ k ≠ []) then 1 else if atE a ≠ 0 then atE a else if cls r n < r.length then 4 else 0
mutual
def ckN (r : List Nm) (prev : Bool) : Nd → Int
  | .mk n a x k => if ndE r (.mk n a x k) ≠ 0 then ndE r (.mk n a x k) else if prev = true ∧ n = [] then 4 else ckL (n :: r) false k
/-- What is wrong with nodes that stand in such names. -/
def ckL (r : List Nm) (prev : Bool) : List Nd → Int
  | [] => 0
  | d :: l => if ckN r prev d ≠ 0 then ckN r prev d else ckL r (decide (d.n = [])) l
end
/-- CheckTree. -/
def ckT (l : List Nd) : Int := if 3000 < manyL 8 l ∨ 8 < deepL 8 l then 2 else ckL [] false l
mutual
def ntxN : Nd → List UInt8
  | .mk _ _ x k => x ++ ntxL k
def ntxL : List Nd → List UInt8
  | [] => []
  | d :: l => ntxN d ++ ntxL l
end
mutual
def insN (p li : Bool) : Nd → Bool
  | .mk n _ _ k => (decide (n = sP) && p || decide (n = sLi) && li) || insL (!(ulolN n || decide (n = sLi) || decide (n = sBq)) && (p || decide (n = sP))) (!ulolN n && (li || decide (n = sLi))) k
def insL (p li : Bool) : List Nd → Bool
  | [] => false
  | d :: l => insN p li d || insL p li l
end
mutual
def sameN : Nd → Nd → Bool
  | .mk n a x k, .mk n' a' x' k' => decide (n = n') && decide (x = x') && decide (a = a') && sameL k k'
def sameL : List Nd → List Nd → Bool
  | [], [] => true
  | d :: l, d' :: l' => sameN d d' && sameL l l'
  | _, _ => false
end
theorem pops_zero (s : St) : pops 0 s = s := rfl
theorem pops_succ (j : Nat) (s : St) : pops (j + 1) s = pops j (pop s) := rfl
theorem put_len (s : St) (d : Nd) : (put s d).2.length = s.2.length := by
  unfold put; split <;> simp
theorem put_nms (s : St) (d : Nd) : nms (put s d) = nms s := by
  unfold put nms; split <;> simp
theorem pop_nms (s : St) : nms (pop s) = (nms s).drop 1 := by
  unfold pop
  split
  · rfl
  · rw [put_nms]; simp [nms]
theorem pops_nms (j : Nat) : ∀ s : St, nms (pops j s) = (nms s).drop j := by
  induction j with
  | zero => intro s; rfl
  | succ j ih => intro s; rw [pops_succ, ih, pop_nms, List.drop_drop, Nat.add_comm]
theorem nms_len (s : St) : (nms s).length = s.2.length := by simp [nms]
theorem pops_add (i j : Nat) : ∀ s : St, pops (i + j) s = pops j (pops i s) := by
  induction i with
  | zero => intro s; simp [pops_zero]
  | succ i ih => intro s; rw [Nat.succ_add, pops_succ, pops_succ, ih]
theorem pops_len (j : Nat) (s : St) : (pops j s).2.length = s.2.length - j := by
  rw [← nms_len, pops_nms, List.length_drop, nms_len]
theorem fin_pops (j : Nat) (s : St) (h : j ≤ s.2.length) : fin (pops j s) = fin s := by
  unfold fin
  rw [pops_len, ← pops_add, Nat.add_sub_cancel' h]
/-- The nodes of the innermost one are these. -/
def setK (s : St) (o : List Nd) : St := match s with
  | (_, []) => (o, [])
  | (r, (n, a, _) :: f) => (r, (n, a, o) :: f)
theorem put_setK (s : St) (o : List Nd) (d : Nd) : put (setK s o) d = setK s (pt o d) := by
  unfold setK; split <;> rfl
theorem setK_nms (s : St) (o : List Nd) : nms (setK s o) = nms s := by
  unfold setK nms; split <;> simp
theorem setK_len (s : St) (o : List Nd) : (setK s o).2.length = s.2.length := by rw [← nms_len, setK_nms, nms_len]
theorem pt_el (o : List Nd) (d : Nd) (h : d.n ≠ []) : pt o d = o ++ [d] := by
  unfold pt
  split
  · rw [if_neg h]
  · rfl
theorem abv_lt (nm : Nm) (stop : Nm → Bool) : ∀ (r : List Nm) (i : Nat), abv nm stop r = some i → i < r.length := by
  intro r
  induction r with
  | nil => intro i h; simp [abv] at h
  | cons x r ih =>
    intro i h
    unfold abv at h
    split at h
    · cases h; simp
    · split at h
      · cases h
      · have := ih i h; simp; omega
/-- What stands inside the one that is found: it is that name, and no more. -/
theorem abv_drop (nm : Nm) (stop : Nm → Bool) : ∀ (r : List Nm) (i : Nat), abv nm stop r = some i → ∃ p, r = p ++ nm :: r.drop (r.length - i) := by
  intro r
  induction r with
  | nil => intro i h; simp [abv] at h
  | cons x r ih =>
    intro i h
    have hlt := abv_lt nm stop _ i h
    unfold abv at h
    split at h
    · rename_i e; subst e
      cases h
      refine ⟨[], ?_⟩
      rw [List.length_cons, Nat.add_sub_cancel_left]; rfl
    · split at h
      · cases h
      · obtain ⟨p, hp⟩ := ih i h
        have h2 := abv_lt nm stop _ i h
        refine ⟨x :: p, ?_⟩
        rw [List.length_cons, show r.length + 1 - i = (r.length - i) + 1 by omega, List.drop_succ_cons, List.cons_append, ← hp]
theorem cls1_le (r : List Nm) (nm : Nm) : cls1 r nm ≤ r.length := by
  unfold cls1
  split
  · cases e : abv sP wallN r with
    | none => simp
    | some i => have := abv_lt _ _ _ _ e; simp; omega
  · exact Nat.le_refl _
theorem cls_le1 (r : List Nm) (nm : Nm) : cls r nm ≤ cls1 r nm := by
  unfold cls
  split
  · cases e : abv sLi ulolN (r.drop (r.length - cls1 r nm)) with
    | none => simp
    | some i => have := abv_lt _ _ _ _ e; have := cls1_le r nm; simp at *; omega
  · exact Nat.le_refl _
theorem cls_le (r : List Nm) (nm : Nm) : cls r nm ≤ r.length := Nat.le_trans (cls_le1 r nm) (cls1_le r nm)
/-- Names that may stand in one another. -/
def Good : List Nm → Prop
  | [] => True
  | n :: r => cls r n = r.length ∧ Good r
theorem Good.drop {r : List Nm} (h : Good r) (j : Nat) : Good (r.drop j) := by
  induction r generalizing j with
  | nil => simp [Good]
  | cons x r ih =>
    cases j with
    | zero => exact h
    | succ j => exact ih h.2 j
theorem Good.mid {p r : List Nm} {n : Nm} (h : Good (p ++ n :: r)) : cls r n = r.length := by
  have := h.drop p.length
  rw [List.drop_left] at this
  exact this.1
theorem cls_p_none {r : List Nm} (h : cls r sP = r.length) : abv sP wallN r = none := by
  cases e : abv sP wallN r with
  | none => rfl
  | some i =>
    have h1 := abv_lt _ _ _ _ e
    have h2 := cls_le1 r sP
    have h3 : cls1 r sP = i := by unfold cls1; rw [e]; simp [blkN]
    omega
theorem cls1_full {r : List Nm} {nm : Nm} (h : cls r nm = r.length) : cls1 r nm = r.length := by
  have := cls_le1 r nm; have := cls1_le r nm; omega
theorem cls1_idem (r : List Nm) (nm : Nm) (hg : Good r) : cls1 (r.drop (r.length - cls1 r nm)) nm = cls1 r nm := by
  have hle := cls1_le r nm
  by_cases hb : blkN nm = true
  · cases e : abv sP wallN r with
    | none =>
      have h1 : cls1 r nm = r.length := by unfold cls1; rw [if_pos hb, e]; rfl
      rw [h1, Nat.sub_self, List.drop_zero, h1]
    | some i =>
      have h1 : cls1 r nm = i := by unfold cls1; rw [if_pos hb, e]; rfl
      obtain ⟨p, hp⟩ := abv_drop _ _ _ _ e
      have hi := abv_lt _ _ _ _ e
      rw [h1] at *
      rw [hp] at hg
      have hn := cls_p_none hg.mid
      unfold cls1
      rw [if_pos hb, hn]
      simp; omega
  · have h1 : cls1 r nm = r.length := by unfold cls1; rw [if_neg hb]
    rw [h1, Nat.sub_self, List.drop_zero, h1]
theorem cls_idem (r : List Nm) (nm : Nm) (hg : Good r) : cls (r.drop (r.length - cls r nm)) nm = cls r nm := by
  have hle := cls_le r nm
  have hle1 := cls1_le r nm
  have hid := cls1_idem r nm hg
  by_cases hl : nm = sLi
  · cases e : abv sLi ulolN (r.drop (r.length - cls1 r nm)) with
    | none =>
      have h1 : cls r nm = cls1 r nm := by unfold cls; rw [if_pos hl, e]; rfl
      rw [h1]
      conv => lhs; unfold cls
      rw [if_pos hl, hid]
      have hlen : (r.drop (r.length - cls1 r nm)).length = cls1 r nm := by simp; omega
      rw [hlen, Nat.sub_self, List.drop_zero, e]; rfl
    | some i =>
      have h1 : cls r nm = i := by unfold cls; rw [if_pos hl, e]; rfl
      have hi := abv_lt _ _ _ _ e
      have hlen : (r.drop (r.length - cls1 r nm)).length = cls1 r nm := by simp; omega
      rw [hlen] at hi
      obtain ⟨p, hp⟩ := abv_drop _ _ _ _ e
      rw [hlen, List.drop_drop, show r.length - cls1 r nm + (cls1 r nm - i) = r.length - i by omega] at hp
      have hg1 := hg.drop (r.length - cls1 r nm)
      rw [hp] at hg1
      have := hg1.mid
      rw [h1, hl, this]
      simp; omega
  · have h1 : cls r nm = cls1 r nm := by unfold cls; rw [if_neg hl]
    rw [h1]
    conv => lhs; unfold cls
    rw [if_neg hl, hid]

/-- The reference's way: nodes in names, from tokens on; what is left, and how many names stay open. -/
def bld : Nat → List Nm → List Tok → List Nd → List Nd × List Tok × Nat
  | 0, r, l, out => (out, l, r.length)
  | _ + 1, r, [], out => (out, [], r.length)
  | k + 1, r, t :: l, out =>
    if t.1 = 1 then bld k r l (pt out (.mk [] [] t.2.2.2 []))
    else if t.1 = 3 then (match abv t.2.1 (fun _ => false) r with | some i => (out, l, i) | none => bld k r l out)
    else if cls r t.2.1 < r.length then (out, t :: l, cls r t.2.1)
    else if r.length = 8 then bld k r l out
    else if emptyN t.2.1 = true then bld k r l (out ++ [.mk t.2.1 t.2.2.1 [] []])
    else if (bld k (t.2.1 :: r) l []).2.2 < r.length then (out ++ [.mk t.2.1 t.2.2.1 [] (bld k (t.2.1 :: r) l []).1], (bld k (t.2.1 :: r) l []).2.1, (bld k (t.2.1 :: r) l []).2.2)
    else bld k r (bld k (t.2.1 :: r) l []).2.1 (out ++ [.mk t.2.1 t.2.2.1 [] (bld k (t.2.1 :: r) l []).1])
/-- Tokens that may come. -/
def TOk (t : Tok) : Prop := (t.1 = 1 ∨ t.1 = 2 ∨ t.1 = 3) ∧ (t.1 = 2 → t.2.1 ≠ [])
theorem bld_run (k : Nat) : ∀ (r : List Nm) (l : List Tok) (out : List Nd), l.length ≤ k → Good r → (∀ t ∈ l, TOk t) →
    (bld k r l out).2.1.length ≤ l.length ∧ (bld k r l out).2.2 ≤ r.length ∧ ((bld k r l out).2.2 = r.length → (bld k r l out).2.1 = []) ∧ (∀ t ∈ (bld k r l out).2.1, TOk t) ∧
    ∀ s : St, nms s = r → fin (l.foldl stp (setK s out)) = fin ((bld k r l out).2.1.foldl stp (pops (r.length - (bld k r l out).2.2) (setK s (bld k r l out).1))) := by
  induction k with
  | zero =>
    intro r l out hl hg ht
    obtain rfl := List.eq_nil_of_length_eq_zero (Nat.le_zero.1 hl)
    simp [bld, pops_zero]
  | succ k ih =>
    intro r l out hl hg ht
    cases l with
    | nil => simp [bld, pops_zero]
    | cons t l =>
      simp only [List.length_cons, Nat.add_le_add_iff_right] at hl
      obtain ⟨hk, hn⟩ := ht t (by simp)
      have ht' : ∀ u ∈ l, TOk u := fun u hu => ht u (by simp [hu])
      unfold bld
      by_cases h1 : t.1 = 1
      · rw [if_pos h1]
        obtain ⟨a, b, c, d, e⟩ := ih r l (pt out (.mk [] [] t.2.2.2 [])) hl hg ht'
        refine ⟨by simp; omega, b, c, d, fun s hs => ?_⟩
        rw [← e s hs, List.foldl_cons]
        congr 2
        unfold stp; rw [if_pos h1, put_setK]
      rw [if_neg h1]
      by_cases h3 : t.1 = 3
      · rw [if_pos h3]
        cases e3 : abv t.2.1 (fun _ => false) r with
        | some i =>
          have hi := abv_lt _ _ _ _ e3
          simp only []
          refine ⟨by simp, by omega, fun h => by omega, ht', fun s hs => ?_⟩
          rw [List.foldl_cons]
          congr 2
          unfold stp; rw [if_neg h1, if_neg (by omega), if_pos h3, setK_nms, hs, e3]
          simp only [setK_len]
          rw [← nms_len, hs]
        | none =>
          simp only []
          obtain ⟨a, b, c, d, e⟩ := ih r l out hl hg ht'
          refine ⟨by simp; omega, b, c, d, fun s hs => ?_⟩
          rw [← e s hs, List.foldl_cons]
          congr 2
          unfold stp; rw [if_neg h1, if_neg (by omega), if_pos h3, setK_nms, hs, e3]
      rw [if_neg h3]
      have h2 : t.1 = 2 := by omega
      by_cases hc : cls r t.2.1 < r.length
      · rw [if_pos hc]
        refine ⟨by simp, by simp; omega, fun h => by simp at h; omega, ht, fun s hs => ?_⟩
        simp only [List.foldl_cons]
        congr 2
        have hsl : s.2.length = r.length := by rw [← nms_len, hs]
        unfold stp
        rw [if_neg h1, if_pos h2, if_neg h1, if_pos h2]
        have hid := cls_idem r t.2.1 hg
        have e1 : nms (pops (r.length - cls r t.2.1) (setK s out)) = r.drop (r.length - cls r t.2.1) := by rw [pops_nms, setK_nms, hs]
        have e2 : (pops (r.length - cls r t.2.1) (setK s out)).2.length = cls r t.2.1 := by rw [pops_len, setK_len, hsl]; omega
        rw [e1, e2, hid, Nat.sub_self, pops_zero, setK_nms, hs, setK_len, hsl]
      rw [if_neg hc]
      have hce : cls r t.2.1 = r.length := by have := cls_le r t.2.1; omega
      have hst : ∀ s : St, nms s = r → stp (setK s out) t = opn (setK s out) t.2.1 t.2.2.1 := by
        intro s hs
        unfold stp
        rw [if_neg h1, if_pos h2, setK_nms, hs, hce, setK_len, ← nms_len, hs, Nat.sub_self, pops_zero]
      by_cases h8 : r.length = 8
      · rw [if_pos h8]
        obtain ⟨a, b, c, d, e⟩ := ih r l out hl hg ht'
        refine ⟨by simp; omega, b, c, d, fun s hs => ?_⟩
        rw [← e s hs, List.foldl_cons, hst s hs]
        congr 2
        unfold opn; rw [if_pos (by rw [setK_len, ← nms_len, hs, h8])]
      rw [if_neg h8]
      have ho8 : ∀ s : St, nms s = r → ¬ (setK s out).2.length = 8 := by intro s hs; rw [setK_len, ← nms_len, hs]; exact h8
      by_cases hem : emptyN t.2.1 = true
      · rw [if_pos hem]
        obtain ⟨a, b, c, d, e⟩ := ih r l (out ++ [.mk t.2.1 t.2.2.1 [] []]) hl hg ht'
        refine ⟨by simp; omega, b, c, d, fun s hs => ?_⟩
        rw [← e s hs, List.foldl_cons, hst s hs]
        congr 2
        unfold opn; rw [if_neg (ho8 s hs), if_pos hem, put_setK, pt_el _ _ (by exact hn h2)]
      rw [if_neg hem]
      obtain ⟨a, b, c, d, e⟩ := ih (t.2.1 :: r) l [] hl ⟨hce, hg⟩ ht'
      obtain ⟨q, hq⟩ : ∃ q, q = bld k (t.2.1 :: r) l [] := ⟨_, rfl⟩
      rw [← hq] at a b c d e ⊢
      have hop : ∀ s : St, nms s = r → opn (setK s out) t.2.1 t.2.2.1 = setK ((setK s out).1, (t.2.1, t.2.2.1, []) :: (setK s out).2) [] := by
        intro s hs
        unfold opn; rw [if_neg (ho8 s hs), if_neg hem]; rfl
      have hnm : ∀ s : St, nms s = r → nms ((setK s out).1, (t.2.1, t.2.2.1, []) :: (setK s out).2) = t.2.1 :: r := by
        intro s hs
        have := setK_nms s out
        rw [hs] at this
        simp only [nms, List.map_cons] at this ⊢
        rw [this]
      have hpop : ∀ s : St, nms s = r → ∀ (v : List Nd), pop (setK ((setK s out).1, (t.2.1, t.2.2.1, []) :: (setK s out).2) v) = setK s (out ++ [.mk t.2.1 t.2.2.1 [] v]) := by
        intro s hs v
        show put ((setK s out).1, (setK s out).2) _ = _
        rw [show ((setK s out).1, (setK s out).2) = setK s out from rfl, put_setK, pt_el _ _ (by exact hn h2)]
      simp only [List.length_cons] at b c e
      by_cases hlt : q.2.2 < r.length
      · rw [if_pos hlt]
        refine ⟨by simp; omega, by simp; omega, fun h => by simp at h; omega, d, fun s hs => ?_⟩
        rw [List.foldl_cons, hst s hs, hop s hs, e _ (hnm s hs)]
        congr 2
        rw [show r.length + 1 - q.2.2 = (r.length - q.2.2) + 1 by omega, pops_succ, hpop s hs]
      · rw [if_neg hlt]
        obtain ⟨a', b', c', d', e'⟩ := ih r q.2.1 (out ++ [.mk t.2.1 t.2.2.1 [] q.1]) (by omega) hg d
        refine ⟨by simp; omega, b', c', d', fun s hs => ?_⟩
        rw [← e' s hs, List.foldl_cons, hst s hs, hop s hs, e _ (hnm s hs)]
        by_cases hfull : q.2.2 = r.length + 1
        · have := c hfull
          rw [this, hfull, Nat.sub_self, pops_zero]
          simp only [List.foldl_nil]
          rw [← hpop s hs, ← fin_pops 1 _ (by simp [setK])]
          rfl
        · have : q.2.2 = r.length := by omega
          congr 2
          rw [this, show r.length + 1 - r.length = 0 + 1 by omega, pops_succ, pops_zero, hpop s hs]
/-- The builder answers as the reference. -/
theorem ofM_bld (l : List Tok) (ht : ∀ t ∈ l, TOk t) (k : Nat) (hk : l.length ≤ k) : (bld k [] l []).1 = ofM l := by
  obtain ⟨a, b, c, d, e⟩ := bld_run k [] l [] hk trivial ht
  have h0 : (bld k [] l []).2.2 = 0 := by simpa using b
  have := e ([], []) rfl
  rw [c (by rw [h0]; rfl), h0] at this
  unfold ofM
  rw [show (([], []) : St) = setK ([], []) [] from rfl, this]
  rfl
end Go.Proofs.YtkacjnifhmgeiaaGreatDoor

namespace Go.Proofs.YtkacjnifhmgeiaaGreatDoor
open Go.RowKit

/-- White bytes of documents; bytes of a title. -/
def blk (c : UInt8) : Bool := decide (c.toNat = 9) || decide (c.toNat = 10) || decide (c.toNat = 13) || decide (c.toNat = 32)
def tiB1 (c : UInt8) : Bool := ltr c || decide (c.toNat = 95)
def tiB (c : UInt8) : Bool := tiB1 c || dgt c || decide (c.toNat = 45) || decide (c.toNat = 46) || decide (c.toNat = 58)
/-- A title. -/
def isTi : List UInt8 → Bool
  | [] => false
  | c :: r => tiB1 c && r.all tiB && decide (r.length ≤ 19)
/-- What stands ahead of the next such text, and behind it. -/
def toS (p : List UInt8) (t : List UInt8) : Option (List UInt8 × List UInt8) := (cutS p t).map fun r => (t.take (t.length - r.length - p.length), r)
def wsX (t : List UInt8) : List UInt8 := t.dropWhile blk
def sCom : List UInt8 := [60, 33, 45, 45]
def sComE : List UInt8 := [45, 45, 62]
def sPi : List UInt8 := [60, 63]
def sPiE : List UInt8 := [63, 62]
def sCd : List UInt8 := [60, 33, 91, 67, 68, 65, 84, 65, 91]
def sCdE : List UInt8 := [93, 93, 62]
/-- A comment, or what begins with <?: it is passed; none: there is none; an error. -/
def asX (t : List UInt8) : Except Int (Option (List UInt8)) :=
  if pre sCom t then (match cutS sComE (t.drop 4) with | some r => .ok (some r) | none => .error 1)
  else if pre sPi t then (match cutS sPiE (t.drop 2) with | some r => .ok (some r) | none => .error 1)
  else .ok none
def miF : Nat → List UInt8 → Except Int (List UInt8)
  | 0, t => .ok t
  | k + 1, t => if (wsX t).length < t.length then miF k (wsX t) else match asX t with
    | .error e => .error e
    | .ok none => .ok t
    | .ok (some r) => miF k r
def miX (t : List UInt8) : Except Int (List UInt8) := miF t.length t
/-- Bytes of a title, and what stands behind them. -/
def tiS : List UInt8 → List UInt8 × List UInt8
  | [] => ([], [])
  | c :: r => if tiB1 c then (c :: r.takeWhile tiB, r.dropWhile tiB) else ([], c :: r)
def tiX (t : List UInt8) : Except Int (List UInt8 × List UInt8) := if isTi (tiS t).1 then .ok (tiS t) else .error 1
def needX (p t : List UInt8) : Except Int (List UInt8) := if pre p t then .ok (t.drop p.length) else .error 1
/-- What is wrong with attributes. -/
def atXF : List Atr → List Atr → Int
  | _, [] => 0
  | p, a :: l => if isTi a.1 = false then 1 else if (p.any fun x => x.1 == a.1) then 6 else atXF (p ++ [a]) l
def atX (l : List Atr) : Int := atXF [] l
/-- A value behind a title: =, and a text in quotes. -/
def vaX (t : List UInt8) : Except Int (List UInt8 × List UInt8) :=
  match needX [61] (wsX t) with
  | .error e => .error e
  | .ok t1 =>
    let q : UInt8 := if pre [39] (wsX t1) then 39 else 34
    match needX [q] (wsX t1) with
    | .error e => .error e
    | .ok t2 => match toS [q] t2 with
      | none => .error 1
      | some (v, r) => if 60 ∈ v then .error 1 else if (Tk v).2 then .ok ((Tk v).1, r) else .error 1
def asF : Nat → List UInt8 → List Atr → Except Int (List Atr × List UInt8)
  | 0, t, out => .ok (out, t)
  | k + 1, t, out =>
    if (wsX t).length < t.length ∧ ((wsX t).head?.map tiB1).getD false = true then
      match tiX (wsX t) with
      | .error e => .error e
      | .ok (n, t1) => match vaX t1 with
        | .error e => .error e
        | .ok (v, r) => if atX (out ++ [(n, v)]) ≠ 0 then .error 6 else asF k r (out ++ [(n, v)])
    else .ok (out, wsX t)
def atrX (t : List UInt8) : Except Int (List Atr × List UInt8) := asF t.length t []
/-- A text behind nodes. -/
def addT (l : List Nd) (s : List UInt8) : List Nd := if s = [] then l else pt l (.mk [] [] s [])
mutual
/-- An element, so deep. -/
def elF : Nat → Nat → List UInt8 → Except Int (Nd × List UInt8)
  | 0, _, _ => .error 1
  | k + 1, deep, t => match needX [60] t with
    | .error e => .error e
    | .ok t0 => match tiX t0 with
      | .error e => .error e
      | .ok (n, t1) => if 8 < deep then .error 2 else match atrX t1 with
        | .error e => .error e
        | .ok (a, t2) => if pre [47, 62] t2 then .ok (.mk n a [] [], t2.drop 2) else match needX [62] t2 with
          | .error e => .error e
          | .ok t3 => match kiF k deep t3 [] with
            | .error e => .error e
            | .ok (l, t4) => match tiX t4 with
              | .error e => .error e
              | .ok (m, t5) => if m ≠ n then .error 4 else match needX [62] (wsX t5) with
                | .error e => .error e
                | .ok t6 => .ok (.mk n a [] l, t6)
/-- Kids, up to </, which is passed. -/
def kiF : Nat → Nat → List UInt8 → List Nd → Except Int (List Nd × List UInt8)
  | 0, _, _, _ => .error 1
  | k + 1, deep, t, out =>
    if pre [60, 47] t then .ok (out, t.drop 2)
    else if pre sCd t then (match toS sCdE (t.drop 9) with
      | none => .error 1
      | some (v, r) => kiF k deep r (addT out v))
    else match asX t with
      | .error e => .error e
      | .ok (some r) => kiF k deep r out
      | .ok none =>
        if pre [60] t then (match elF k (deep + 1) t with
          | .error e => .error e
          | .ok (d, r) => kiF k deep r (out ++ [d]))
        else if (Tk (t.takeWhile (· != 60))).2 = false then .error 1
        else if t.dropWhile (· != 60) = [] then .error 1
        else kiF k deep (t.dropWhile (· != 60)) (addT out (Tk (t.takeWhile (· != 60))).1)
end
/-- A document. -/
def XmP (s : List UInt8) : Except Int Nd := match miX s with
  | .error e => .error e
  | .ok t => match elF (2 * t.length + 2) 1 t with
    | .error e => .error e
    | .ok (d, t1) => match miX t1 with
      | .error e => .error e
      | .ok t2 => if t2 = [] then .ok d else .error 1
mutual
def wrX : Nd → List UInt8
  | .mk n a x k => if n = [] then PutL x else 60 :: n ++ atW a ++ (if k = [] then [47, 62] else 62 :: wrL k ++ [60, 47] ++ n ++ [62])
/-- Nodes as they are written. -/
def wrL : List Nd → List UInt8
  | [] => []
  | d :: l => wrX d ++ wrL l
end
def nxE : Nd → Int
  | .mk n a x k => if n = [] then (if x = [] ∨ a ≠ [] ∨ k ≠ [] then 1 else 0) else if x ≠ [] ∨ isTi n = false then 1 else atX a
mutual
def cxN (prev : Bool) : Nd → Int
  | .mk n a x k => if nxE (.mk n a x k) ≠ 0 then nxE (.mk n a x k) else if cxL false k ≠ 0 then cxL false k else if prev = true ∧ n = [] then 4 else 0
def cxL (prev : Bool) : List Nd → Int
  | [] => 0
  | d :: l => if cxN prev d ≠ 0 then cxN prev d else cxL (decide (d.n = [])) l
end
end Go.Proofs.YtkacjnifhmgeiaaGreatDoor

/- Tokens: what reading, checking and printing answer, said by plain functions. · Signs that are taken: the reference. · Tokens: the reader's small steps. -/
import Derived.Test.YtamdlihgecpbkaaGreatDoorGrpC
import Derived.Test.YtamdlihgecpbkaaGreatDoorGrpD
set_option maxHeartbeats 2000000
namespace Go.Proofs.YtamdlihgecpbkaaGreatDoor
open Go.RowKit
abbrev Atr := List UInt8 × List UInt8
abbrev Tok := Int × List UInt8 × List Atr × List UInt8
def cutS (p : List UInt8) : List UInt8 → Option (List UInt8)
 | [] => none
 | c :: r => if pre p (c :: r) then some ((c :: r).drop p.length) else cutS p r
def valOf (t : List UInt8) : Option (List UInt8 × List UInt8) :=
 match t.dropWhile wht with
 | [] => some ([], [])
 | q :: r => if q = 34 ∨ q = 39 then (match r.dropWhile (· != q) with | [] => none | _ :: s => some (r.takeWhile (· != q), s)) else some ((q :: r).takeWhile vch, (q :: r).dropWhile vch)
def oneAt (c : UInt8) (r : List UInt8) : Option (Atr × List UInt8) :=
 match (r.dropWhile nch).dropWhile wht with
 | [] => some ((fold (c :: r.takeWhile nch), []), [])
 | d :: s => if d = 61 then (match valOf s with | none => none | some (v, u) => some ((fold (c :: r.takeWhile nch), (Tk v).1), u)) else some ((fold (c :: r.takeWhile nch), []), d :: s)
def addA (out : List Atr) (a : Atr) : List Atr := if isNm a.1 && !(out.any fun x => x.1 == a.1) then out ++ [a] else out
def atF : Nat → List UInt8 → List Atr → Option (List Atr × List UInt8)
 | 0, _, _ => none
 | k + 1, t, out => match t.dropWhile wsl with
   | [] => none
   | c :: r => if c = 62 then some (out, r) else match oneAt c r with
     | none => none
     | some (a, u) => atF k u (addA out a)
def atP (t : List UInt8) (out : List Atr) : Option (List Atr × List UInt8) := atF (t.length + 1) t out
theorem dw_len {p : UInt8 → Bool} (l : List UInt8) : (l.dropWhile p).length ≤ l.length := (List.dropWhile_suffix p).length_le
theorem cutS_len (p : List UInt8) (hp : 0 < p.length) : ∀ l r : List UInt8, cutS p l = some r → r.length < l.length := by
 intro l; induction l with
 | nil => intro r h; simp [cutS] at h
 | cons c l ih =>
   intro r h; unfold cutS at h; split at h
   · cases h; simp; omega
   · have := ih r h; simp; omega
theorem valOf_len (t : List UInt8) (v u : List UInt8) (h : valOf t = some (v, u)) : u.length ≤ t.length ∧ v.length ≤ t.length := by
 have h1 := dw_len (p := wht) t; unfold valOf at h; split at h
 · simp only [Option.some.injEq, Prod.mk.injEq] at h; obtain ⟨rfl, rfl⟩ := h; simp
 · rename_i q r e; rw [e] at h1; simp only [List.length_cons] at h1; split at h
   · have h2 := dw_len (p := (· != q)) r; split at h
     · cases h
     · rename_i x s e2; rw [e2] at h2; simp only [Option.some.injEq, Prod.mk.injEq] at h; obtain ⟨rfl, rfl⟩ := h; have h3 : (r.takeWhile (· != q)).length ≤ r.length := (List.takeWhile_prefix _).length_le; simp only [List.length_cons] at h2; omega
   · simp only [Option.some.injEq, Prod.mk.injEq] at h; obtain ⟨rfl, rfl⟩ := h; have h2 := dw_len (p := vch) (q :: r); have h3 : ((q :: r).takeWhile vch).length ≤ (q :: r).length := (List.takeWhile_prefix _).length_le; simp only [List.length_cons] at h2 h3 ⊢; omega
theorem oneAt_len (c : UInt8) (r : List UInt8) (a : Atr) (u : List UInt8) (h : oneAt c r = some (a, u)) : u.length ≤ r.length := by
 have h1 := dw_len (p := wht) (r.dropWhile nch); have h2 := dw_len (p := nch) r; unfold oneAt at h; split at h
 · simp only [Option.some.injEq, Prod.mk.injEq] at h; obtain ⟨_, rfl⟩ := h; simp
 · rename_i d s e; rw [e] at h1; simp only [List.length_cons] at h1; split at h
   · split at h
     · cases h
     · rename_i v w e2; simp only [Option.some.injEq, Prod.mk.injEq] at h; obtain ⟨_, rfl⟩ := h; have := (valOf_len _ _ _ e2).1; omega
   · simp only [Option.some.injEq, Prod.mk.injEq] at h; obtain ⟨_, rfl⟩ := h; simp only [List.length_cons]; omega
theorem atF_two (k : Nat) : ∀ (j : Nat) (t : List UInt8) (out : List Atr), t.length < k → t.length < j → atF k t out = atF j t out := by
 induction k with
 | zero => intro j t out h; omega
 | succ k ih =>
   intro j t out h h'; cases j with
   | zero => omega
   | succ j =>
     have h1 := dw_len (p := wsl) t; unfold atF; split
     · rfl
     · rename_i c r e; rw [e] at h1; simp only [List.length_cons] at h1; split
       · rfl
       · split
         · rfl
         · rename_i a u e2; have := oneAt_len c r a u e2; exact ih j u _ (by omega) (by omega)
theorem atF_eq (k : Nat) (t : List UInt8) (out : List Atr) (h : t.length < k) : atF k t out = atP t out := atF_two k _ t out h (Nat.lt_succ_self _)
theorem atP_nil {t : List UInt8} {out : List Atr} (h : t.dropWhile wsl = []) : atP t out = none := by
 unfold atP atF; rw [h]
theorem atP_end {t r : List UInt8} {out : List Atr} (h : t.dropWhile wsl = 62 :: r) : atP t out = some (out, r) := by
 unfold atP atF; rw [h]; rfl
theorem atP_no {t r : List UInt8} {c : UInt8} {out : List Atr} (h : t.dropWhile wsl = c :: r) (hc : c ≠ 62) (h2 : oneAt c r = none) : atP t out = none := by
 unfold atP atF; rw [h]; simp only [if_neg hc, h2]
theorem atP_go {t r u : List UInt8} {c : UInt8} {a : Atr} {out : List Atr} (h : t.dropWhile wsl = c :: r) (hc : c ≠ 62) (h2 : oneAt c r = some (a, u)) : atP t out = atP u (addA out a) := by
 have h1 := dw_len (p := wsl) t; have h3 := oneAt_len c r a u h2; rw [h] at h1; simp only [List.length_cons] at h1; conv => lhs; unfold atP atF
 rw [h]; simp only [if_neg hc, h2]; exact atF_eq _ _ _ (by omega)
theorem atF_len (k : Nat) : ∀ (t : List UInt8) (out l : List Atr) (r : List UInt8), atF k t out = some (l, r) → r.length < t.length := by
 induction k with
 | zero => intro t out l r h; simp [atF] at h
 | succ k ih =>
   intro t out l r h; have h1 := dw_len (p := wsl) t; unfold atF at h; split at h
   · cases h
   · rename_i c s e; rw [e] at h1; simp only [List.length_cons] at h1; split at h
     · simp only [Option.some.injEq, Prod.mk.injEq] at h; obtain ⟨_, rfl⟩ := h; omega
     · split at h
       · cases h
       · rename_i a u e2; have h3 := oneAt_len c s a u e2; have := ih u _ l r h; omega
def tagP : List UInt8 → Option (Option (Option Tok × List UInt8))
 | [] => none
 | c :: r =>
   if ltr c then some ((atP ((c :: r).dropWhile tch) []).map fun x => (some (2, fold ((c :: r).takeWhile tch), x.1, []), x.2))
   else if c = 47 ∧ (r.head?.map ltr).getD false = true then some ((cutS [62] (r.dropWhile tch)).map fun x => (some (3, fold (r.takeWhile tch), [], []), x))
   else if pre [33, 45, 45] (c :: r) then some ((cutS [45, 45, 62] r).map fun x => (none, x))
   else if c = 33 ∨ c = 63 ∨ c = 47 then some ((cutS [62] (c :: r)).map fun x => (none, x))
   else none
theorem tagP_cons (c : UInt8) (r : List UInt8) : tagP (c :: r) =
 if ltr c then some ((atP ((c :: r).dropWhile tch) []).map fun x => (some (2, fold ((c :: r).takeWhile tch), x.1, []), x.2))
 else if c = 47 ∧ (r.head?.map ltr).getD false = true then some ((cutS [62] (r.dropWhile tch)).map fun x => (some (3, fold (r.takeWhile tch), [], []), x))
 else if pre [33, 45, 45] (c :: r) then some ((cutS [45, 45, 62] r).map fun x => (none, x))
 else if c = 33 ∨ c = 63 ∨ c = 47 then some ((cutS [62] (c :: r)).map fun x => (none, x))
 else none := rfl
theorem tagP_len (t : List UInt8) (o : Option Tok) (r : List UInt8) (h : tagP t = some (some (o, r))) : r.length ≤ t.length := by
 unfold tagP at h; split at h
 · cases h
 · rename_i c s; have h1 := dw_len (p := tch) (c :: s); have h2 := dw_len (p := tch) s; split at h
   · cases e : atP ((c :: s).dropWhile tch) [] with
     | none => rw [e] at h; simp at h
     | some x =>
       rw [e] at h; simp only [Option.map_some, Option.some.injEq, Prod.mk.injEq] at h; obtain ⟨_, rfl⟩ := h; have := atF_len _ _ _ _ _ e; simp only [List.length_cons] at *; omega
   split at h
   · cases e : cutS [62] (s.dropWhile tch) with
     | none => rw [e] at h; simp at h
     | some x =>
       rw [e] at h; simp only [Option.map_some, Option.some.injEq, Prod.mk.injEq] at h; obtain ⟨_, rfl⟩ := h; have := cutS_len [62] (by simp) _ _ e; simp only [List.length_cons] at *; omega
   split at h
   · cases e : cutS [45, 45, 62] s with
     | none => rw [e] at h; simp at h
     | some x =>
       rw [e] at h; simp only [Option.map_some, Option.some.injEq, Prod.mk.injEq] at h; obtain ⟨_, rfl⟩ := h; have := cutS_len [45, 45, 62] (by simp) _ _ e; simp only [List.length_cons] at *; omega
   split at h
   · cases e : cutS [62] (c :: s) with
     | none => rw [e] at h; simp at h
     | some x =>
       rw [e] at h; simp only [Option.map_some, Option.some.injEq, Prod.mk.injEq] at h; obtain ⟨_, rfl⟩ := h; have := cutS_len [62] (by simp) _ _ e; omega
   · cases h
def flsh (text : List UInt8) (out : List Tok) : List Tok := if (Tk text).1 = [] then out else out ++ [(1, [], [], (Tk text).1)]
def tkF : Nat → List UInt8 → List UInt8 → List Tok → List Tok
 | 0, _, text, out => flsh text out
 | _ + 1, [], text, out => flsh text out
 | k + 1, c :: r, text, out =>
   if c = 60 then match tagP r with
    | none => tkF k r (text ++ [60]) out
    | some none => flsh (text ++ 60 :: r) out
    | some (some (none, u)) => tkF k u text out
    | some (some (some t, u)) => if isNm t.2.1 then tkF k u [] (flsh text out ++ [t]) else tkF k u text out
   else tkF k r (text ++ [c]) out
def tkP (s text : List UInt8) (out : List Tok) : List Tok := tkF s.length s text out
def TokL (s : List UInt8) : List Tok := tkP s [] []
theorem tkF_two (k : Nat) : ∀ (j : Nat) (s text : List UInt8) (out : List Tok), s.length ≤ k → s.length ≤ j → tkF k s text out = tkF j s text out := by
 induction k with
 | zero =>
   intro j s text out h _; obtain rfl := List.eq_nil_of_length_eq_zero (Nat.le_zero.1 h); cases j <;> rfl
 | succ k ih =>
   intro j s text out h h'; cases s with
   | nil => cases j <;> rfl
   | cons c r =>
     cases j with
     | zero => simp at h'
     | succ j =>
       simp only [List.length_cons, Nat.add_le_add_iff_right] at h h'; unfold tkF; split
       · split
         · exact ih j _ _ _ h h'
         · rfl
         · rename_i u e; have := tagP_len _ _ _ e; exact ih j _ _ _ (by omega) (by omega)
         · rename_i t u e; have := tagP_len _ _ _ e; split <;> exact ih j _ _ _ (by omega) (by omega)
       · exact ih j _ _ _ h h'
theorem tkF_eq (k : Nat) (s text : List UInt8) (out : List Tok) (h : s.length ≤ k) : tkF k s text out = tkP s text out := tkF_two k _ s text out h (Nat.le_refl _)
theorem tkP_nil (text : List UInt8) (out : List Tok) : tkP [] text out = flsh text out := rfl
theorem tkP_plain (c : UInt8) (r text : List UInt8) (out : List Tok) (h : c ≠ 60) : tkP (c :: r) text out = tkP r (text ++ [c]) out := by
 conv => lhs; unfold tkP; rw [List.length_cons]; unfold tkF
 rw [if_neg h]; rfl
theorem tkP_run (p r text : List UInt8) (out : List Tok) (h : 60 ∉ p) : tkP (p ++ r) text out = tkP r (text ++ p) out := by
 induction p generalizing text with
 | nil => simp
 | cons c p ih =>
   simp only [List.mem_cons, not_or] at h; rw [List.cons_append, tkP_plain _ _ _ _ (fun e => h.1 e.symm), ih _ h.2]; simp
theorem tkP_lone (r text : List UInt8) (out : List Tok) (h : tagP r = none) : tkP (60 :: r) text out = tkP r (text ++ [60]) out := by
 conv => lhs; unfold tkP; rw [List.length_cons]; unfold tkF
 rw [if_pos rfl, h]; rfl
theorem tkP_open (r text : List UInt8) (out : List Tok) (h : tagP r = some none) : tkP (60 :: r) text out = flsh (text ++ 60 :: r) out := by
 conv => lhs; unfold tkP; rw [List.length_cons]; unfold tkF
 rw [if_pos rfl, h]
theorem tkP_skip (r u text : List UInt8) (out : List Tok) (h : tagP r = some (some (none, u))) : tkP (60 :: r) text out = tkP u text out := by
 have := tagP_len _ _ _ h; conv => lhs; unfold tkP; rw [List.length_cons]; unfold tkF
 rw [if_pos rfl, h]; exact tkF_eq _ _ _ _ this
theorem tkP_tag (r u text : List UInt8) (t : Tok) (out : List Tok) (h : tagP r = some (some (some t, u))) (hn : isNm t.2.1 = true) : tkP (60 :: r) text out = tkP u [] (flsh text out ++ [t]) := by
 have := tagP_len _ _ _ h; conv => lhs; unfold tkP; rw [List.length_cons]; unfold tkF
 rw [if_pos rfl, h]; simp only [hn, if_true]; exact tkF_eq _ _ _ _ this
theorem tkP_tagno (r u text : List UInt8) (t : Tok) (out : List Tok) (h : tagP r = some (some (some t, u))) (hn : isNm t.2.1 = false) : tkP (60 :: r) text out = tkP u text out := by
 have := tagP_len _ _ _ h; conv => lhs; unfold tkP; rw [List.length_cons]; unfold tkF
 rw [if_pos rfl, h]; simp only [hn, Bool.false_eq_true, if_false]; exact tkF_eq _ _ _ _ this
def atEF : List Atr → List Atr → Int
 | _, [] => 0
 | p, a :: l => if isNm a.1 = false then 1 else if (p.any fun x => x.1 == a.1) then 6 else atEF (p ++ [a]) l
def atE (l : List Atr) : Int := atEF [] l
def tkE (t : Tok) : Int :=
 if t.1 < 1 ∨ 3 < t.1 then 7
 else if t.1 = 1 ∧ (t.2.1 ≠ [] ∨ t.2.2.1 ≠ [] ∨ t.2.2.2 = []) ∨ t.1 ≠ 1 ∧ t.2.2.2 ≠ [] ∨ t.1 = 3 ∧ t.2.2.1 ≠ [] then 1
 else if t.1 = 1 then 0 else if isNm t.2.1 = false then 1 else atE t.2.2.1
def tkEF : Int → List Tok → Int
 | _, [] => 0
 | k, t :: l => if tkE t ≠ 0 then tkE t else if t.1 = 1 ∧ k = 1 then 4 else tkEF t.1 l
def ckE (l : List Tok) : Int := if 3000 < l.length then 2 else tkEF 0 l
def atW (l : List Atr) : List UInt8 := l.flatMap fun a => 32 :: a.1 ++ [61, 34] ++ PutL a.2 ++ [34]
def tkW (t : Tok) : List UInt8 := if t.1 = 1 then PutL t.2.2.2 else if t.1 = 2 then 60 :: t.2.1 ++ atW t.2.2.1 ++ [62] else if t.1 = 3 then [60, 47] ++ t.2.1 ++ [62] else []
def tksW (l : List Tok) : List UInt8 := l.flatMap tkW
theorem startsAt_c (s p : List UInt8) (at' : Nat) (hs : s.length ≤ 4611686018427387904) (hp : p.length ≤ 1000) (h : at' ≤ s.length) (w : World) :
 Calls Tryz.prog 69 #[.string ⟨s.toArray⟩, .int .i64 (at' : Int), .string ⟨p.toArray⟩] w fun e w' => e = .returned (.bool (pre p (s.drop at'))) ∧ w = w' := by
 have hq := pre_iff p (s.drop at'); simp only [List.length_drop] at hq; have HQ := Lib.hid hq; clear hq; have h0 : (0 : Int) ≤ (at' : Int) := by omega
 have h0' : decide ((0 : Int) ≤ (at' : Int)) = true := by simp
 by_cases hl : p.length ≤ s.length - at'
 · have hl1 : (p.length : Int) ≤ (s.length : Int) - (at' : Int) := by omega
   have hl2 : (at' : Int) + (p.length : Int) ≤ (s.length : Int) := by omega
   have hl3 : at' + p.length ≤ s.length := by omega
   have hl4 : (at' : Int) ≤ (at' : Int) + (p.length : Int) := by omega
   have HL := Lib.hid hl; clear hl; go_enter Tryz.func69, Tryz.ntmps69; go_wp2; go_ret; exact ⟨ret_bool (by rw [HQ.out, decide_eq_true HL.out]; simp), rfl⟩
 · have hl1 : ¬ (p.length : Int) ≤ (s.length : Int) - (at' : Int) := by omega
   have HL := Lib.hid hl; clear hl; go_enter Tryz.func69, Tryz.ntmps69; go_wp2; go_ret; exact ⟨ret_bool (by rw [HQ.out, decide_eq_false HL.out]; rfl), rfl⟩
theorem cv1 (W : World) (b : Nat) (x : Int) (hx : W.cell? ⟨b, 0, none⟩ = some (.int .u8 x)) : (convert 60 9 (.slice (some ⟨b, 0, none⟩) 1 1)).run Tryz.prog W = .ok (.string ⟨[UInt8.ofNat x.toNat].toArray⟩) W :=
 run_convert_bytes_arg (P := Tryz.prog) W 60 5 Tryz.underlying60 Tryz.underlying5 b 0 1 1 [x] rfl (fun i hi => by
  obtain rfl : i = 0 := by omega
  exact hx) 9 Tryz.underlying9
theorem cv2 (W : World) (b : Nat) (x y : Int) (hx : W.cell? ⟨b, 0, none⟩ = some (.int .u8 x)) (hy : W.cell? ⟨b, 1, none⟩ = some (.int .u8 y)) : (convert 60 9 (.slice (some ⟨b, 0, none⟩) 2 2)).run Tryz.prog W = .ok (.string ⟨[UInt8.ofNat x.toNat, UInt8.ofNat y.toNat].toArray⟩) W :=
 run_convert_bytes_arg (P := Tryz.prog) W 60 5 Tryz.underlying60 Tryz.underlying5 b 0 2 2 [x, y] rfl (fun i hi => by
  have : i = 0 ∨ i = 1 := by omega
  rcases this with rfl | rfl
  · exact hx
  · exact hy) 9 Tryz.underlying9
theorem cv3 (W : World) (b : Nat) (x y z : Int) (hx : W.cell? ⟨b, 0, none⟩ = some (.int .u8 x)) (hy : W.cell? ⟨b, 1, none⟩ = some (.int .u8 y)) (hz : W.cell? ⟨b, 2, none⟩ = some (.int .u8 z)) : (convert 60 9 (.slice (some ⟨b, 0, none⟩) 3 3)).run Tryz.prog W = .ok (.string ⟨[UInt8.ofNat x.toNat, UInt8.ofNat y.toNat, UInt8.ofNat z.toNat].toArray⟩) W :=
 run_convert_bytes_arg (P := Tryz.prog) W 60 5 Tryz.underlying60 Tryz.underlying5 b 0 3 3 [x, y, z] rfl (fun i hi => by
  have : i = 0 ∨ i = 1 ∨ i = 2 := by omega
  rcases this with rfl | rfl | rfl
  · exact hx
  · exact hy
  · exact hz) 9 Tryz.underlying9
theorem cv4 (W : World) (b : Nat) (x y z u : Int) (hx : W.cell? ⟨b, 0, none⟩ = some (.int .u8 x)) (hy : W.cell? ⟨b, 1, none⟩ = some (.int .u8 y)) (hz : W.cell? ⟨b, 2, none⟩ = some (.int .u8 z)) (hu : W.cell? ⟨b, 3, none⟩ = some (.int .u8 u)) : (convert 60 9 (.slice (some ⟨b, 0, none⟩) 4 4)).run Tryz.prog W = .ok (.string ⟨[UInt8.ofNat x.toNat, UInt8.ofNat y.toNat, UInt8.ofNat z.toNat, UInt8.ofNat u.toNat].toArray⟩) W :=
 run_convert_bytes_arg (P := Tryz.prog) W 60 5 Tryz.underlying60 Tryz.underlying5 b 0 4 4 [x, y, z, u] rfl (fun i hi => by
  have : i = 0 ∨ i = 1 ∨ i = 2 ∨ i = 3 := by omega
  rcases this with rfl | rfl | rfl | rfl
  · exact hx
  · exact hy
  · exact hz
  · exact hu) 9 Tryz.underlying9
theorem rowL_1 (n : Int) (h0 : 0 < n) (h1 : n < 128) : rowL n = [UInt8.ofNat n.toNat] := by
 have hv : Utf8.valid n = true := by simp [Utf8.valid]; omega
 unfold rowL Utf8.encode; rw [hv]; simp only [if_true]; rw [if_pos (by omega)]
theorem rowL_2 (n : Int) (h0 : 128 ≤ n) (h1 : n < 2048) : rowL n = [UInt8.ofNat (192 + n / 64).toNat, UInt8.ofNat (128 + n % 64).toNat] := by
 have hv : Utf8.valid n = true := by simp [Utf8.valid]; omega
 unfold rowL Utf8.encode; rw [hv]; simp only [if_true]; rw [if_neg (by omega), if_pos (by omega), show (192 + n / 64).toNat = 192 + n.toNat / 64 by omega, show (128 + n % 64).toNat = 128 + n.toNat % 64 by omega]
theorem rowL_3 (n : Int) (h0 : 2048 ≤ n) (h1 : n < 65536) (h2 : n < 55296 ∨ 57343 < n) : rowL n = [UInt8.ofNat (224 + n / 4096).toNat, UInt8.ofNat (128 + n / 64 % 64).toNat, UInt8.ofNat (128 + n % 64).toNat] := by
 have hv : Utf8.valid n = true := by simp [Utf8.valid]; omega
 unfold rowL Utf8.encode; rw [hv]; simp only [if_true]; rw [if_neg (by omega), if_neg (by omega), if_pos (by omega), show (224 + n / 4096).toNat = 224 + n.toNat / 4096 by omega, show (128 + n / 64 % 64).toNat = 128 + n.toNat / 64 % 64 by omega, show (128 + n % 64).toNat = 128 + n.toNat % 64 by omega]
theorem rowL_4 (n : Int) (h0 : 65536 ≤ n) (h1 : n ≤ 1114111) : rowL n = [UInt8.ofNat (240 + n / 262144).toNat, UInt8.ofNat (128 + n / 4096 % 64).toNat, UInt8.ofNat (128 + n / 64 % 64).toNat, UInt8.ofNat (128 + n % 64).toNat] := by
 have hv : Utf8.valid n = true := by simp [Utf8.valid]; omega
 unfold rowL Utf8.encode; rw [hv]; simp only [if_true]; rw [if_neg (by omega), if_neg (by omega), if_neg (by omega), show (240 + n / 262144).toNat = 240 + n.toNat / 262144 by omega, show (128 + n / 4096 % 64).toNat = 128 + n.toNat / 4096 % 64 by omega, show (128 + n / 64 % 64).toNat = 128 + n.toNat / 64 % 64 by omega, show (128 + n % 64).toNat = 128 + n.toNat % 64 by omega]
theorem row_c (n : Int) (h0 : 0 < n) (h1 : n ≤ 1114111) (h2 : n < 55296 ∨ 57343 < n) (w : World) :
 Calls Tryz.prog 171 #[.int .i64 n] w fun e w' => e = .returned (.string ⟨(rowL n).toArray⟩) ∧ Bl w w' := by
 have c1 := cv1; have c2 := cv2; have c3 := cv3; have c4 := cv4; by_cases a1 : n < 128
 · have HR := Lib.hid (rowL_1 n h0 a1); go_enter Tryz.func171, Tryz.ntmps171; go_wp2; go_ret; exact ⟨by rw [HR.out]; rfl, by repeat (first | exact Bl.refl _ | refine Bl.alloc ?_ _)⟩
 by_cases a2 : n < 2048
 · have HR := Lib.hid (rowL_2 n (by omega) a2); go_enter Tryz.func171, Tryz.ntmps171; go_wp2; go_ret; exact ⟨by rw [HR.out]; rfl, by repeat (first | exact Bl.refl _ | refine Bl.alloc ?_ _)⟩
 by_cases a3 : n < 65536
 · have HR := Lib.hid (rowL_3 n (by omega) a3 h2); go_enter Tryz.func171, Tryz.ntmps171; go_wp2; go_ret; exact ⟨by rw [HR.out]; rfl, by repeat (first | exact Bl.refl _ | refine Bl.alloc ?_ _)⟩
 · have HR := Lib.hid (rowL_4 n (by omega) h1); go_enter Tryz.func171, Tryz.ntmps171; go_wp2; go_ret; exact ⟨by rw [HR.out]; rfl, by repeat (first | exact Bl.refl _ | refine Bl.alloc ?_ _)⟩
def hd (p : UInt8 → Bool) : List UInt8 → Bool
 | [] => false
 | c :: _ => p c
theorem hd_drop (p : UInt8 → Bool) (s : List UInt8) (k : Nat) (h : k < s.length) : hd p (s.drop k) = p s[k] := by rw [List.drop_eq_getElem_cons h]; rfl
theorem hd_end (p : UInt8 → Bool) (s : List UInt8) (k : Nat) (h : s.length ≤ k) : hd p (s.drop k) = false := by rw [List.drop_eq_nil_of_le h]; rfl
structure Do (N : Nat) (cap : Array Value) (p : UInt8 → Bool) (I : World → Prop) : Prop where
 cf : ∀ (args : Array Value) (W : World), Sem.run Tryz.prog (callFunc N args) W = .ok (.enter N args) W
 go : ∀ (c : UInt8) W, I W → Calls Tryz.prog N (#[.int .u8 (c.toNat : Int)] ++ cap) W fun e w' => e = .returned (.bool (p c)) ∧ Qt W w'
 qt : ∀ W W', I W → Qt W W' → I W'
theorem here_c (N : Nat) (cap : Array Value) (p : UInt8 → Bool) (I : World → Prop) (hD : Do N cap p I) (b k : Nat) (s x : List UInt8) (v : Value) (w : World) (hI : I w) (hR : Rk w b s k x v) (_hs : s.length ≤ 1099511627776) :
 Calls Tryz.prog 179 #[.pointer (some ⟨b, 0, none⟩), .func (.func N) #[] cap] w fun e w' => e = .returned (.bool (hd p (s.drop k))) ∧ Qt w w' := by
 obtain ⟨c0, c1, c2, c3, f0, f1, f2, f3⟩ := hR.cells; have hcf := hD.cf; have HD := Lib.hid (fun c W h => hD.go c W (hD.qt w W hI h)); clear hD hR; by_cases hlt : k < s.length
 · have hlt' : (k : Int) < (s.length : Int) := by omega
   have H1 := Lib.hid (hd_drop p s k hlt); go_enter Tryz.func179, Tryz.ntmps179; go_wp2_with (go_quiet (first | (refine quiet_qt (HD.out s[k] _ ?_); exact ⟨_, rfl⟩))); go_ret; exact ⟨by rw [H1.out]; rfl, (Qt.refl _).drewN _⟩
 · have hlt' : decide ((k : Int) < (s.length : Int)) = false := by simp; omega
   have H1 := Lib.hid (hd_end p s k (by omega)); go_enter Tryz.func179, Tryz.ntmps179; go_wp2_with (go_quiet (fail)); go_ret; exact ⟨by rw [H1.out]; rfl, (Qt.refl _).drewN _⟩
theorem tw_take {α : Type} (p : α → Bool) (l : List α) : l.take (l.takeWhile p).length = l.takeWhile p := (List.prefix_iff_eq_take.1 (List.takeWhile_prefix p)).symm
theorem tw_drop {α : Type} (p : α → Bool) (l : List α) : l.drop (l.takeWhile p).length = l.dropWhile p := by
 induction l with
 | nil => rfl
 | cons a l ih => simp only [List.takeWhile_cons, List.dropWhile_cons]; split <;> simp [ih]
theorem hd_in (p : UInt8 → Bool) (s : List UInt8) (k j : Nat) (h : j < ((s.drop k).takeWhile p).length) : hd p (s.drop (k + j)) = true ∧ k + j < s.length := by
 have h1 := tw_take p (s.drop k); have h2 : ((s.drop k).takeWhile p).length ≤ (s.drop k).length := (List.takeWhile_prefix p).length_le; rw [List.length_drop] at h2; have hlt : k + j < s.length := by omega
 refine ⟨?_, hlt⟩; rw [hd_drop p s (k + j) hlt]; have h3 : ((s.drop k).takeWhile p)[j] = s[k + j] := by
  have : ((s.drop k).take ((s.drop k).takeWhile p).length)[j]'(by rw [h1]; exact h) = s[k + j] := by simp
  rw [← this]; congr 1; exact h1.symm
 rw [← h3]; exact mem_tw (List.getElem_mem h)
theorem hd_out (p : UInt8 → Bool) (s : List UInt8) (k : Nat) : hd p (s.drop (k + ((s.drop k).takeWhile p).length)) = false := by
 rw [← List.drop_drop, tw_drop]; induction s.drop k with
 | nil => rfl
 | cons a l ih =>
   rw [List.dropWhile_cons]; cases h : p a
   · simp [hd, h]
   · simpa using ih
theorem pass_c (N : Nat) (cap : Array Value) (p : UInt8 → Bool) (I : World → Prop) (hD : Do N cap p I) (b k : Nat) (s x : List UInt8) (v : Value) (w : World) (hI : I w) (hI2 : ∀ W u, I W → I (W.setCell ⟨b, 1, none⟩ u)) (hR : Rk w b s k x v) (hk : k ≤ s.length) (hs : s.length ≤ 1099511627776) :
 Calls Tryz.prog 151 #[.pointer (some ⟨b, 0, none⟩), .func (.func N) #[] cap] w fun e w' => e = .returned (.string ⟨((s.drop k).takeWhile p).toArray⟩) ∧
  Rk w' b s (k + ((s.drop k).takeWhile p).length) x v ∧ w.grownBy w' (some b) ∧ I w' := by
 obtain ⟨c0, c1, c2, c3, f0, f1, f2, f3⟩ := hR.cells; have HH := Lib.hid (fun j W h1 h2 => here_c N cap p I hD b j s x v W h1 h2 hs); have HIN := Lib.hid (hd_in p s k); have HOUT := Lib.hid (hd_out p s k); have HT := Lib.hid (tw_take p (s.drop k)); have hle : k + ((s.drop k).takeWhile p).length ≤ s.length := by
  have h2 : ((s.drop k).takeWhile p).length ≤ (s.drop k).length := (List.takeWhile_prefix p).length_le; rw [List.length_drop] at h2; omega
 have HQ := Lib.hid hD.qt; have HI2 := Lib.hid hI2; obtain ⟨t, ht⟩ : ∃ t, t = (s.drop k).takeWhile p := ⟨_, rfl⟩; rw [← ht] at HIN HOUT HT hle ⊢; clear ht hD hI2; go_enter Tryz.func151, Tryz.ntmps151; go_wp2; clear c0 c1 c2 c3 f0 f1 f2 f3; go_loopw [] (fun wr => ∃ j : Nat, j ≤ t.length ∧ Rk wr b s (k + j) x v ∧ w.grownBy wr (some b) ∧ I wr) (fun wr => s.length - atOf b wr); case atStart => exact ⟨0, Nat.zero_le _, hR, gb_refl _ _, hI⟩
 case round =>
  obtain ⟨j, hj, hRr, hg, hIr⟩ := hrel; by_cases hlt : j < t.length
  · obtain ⟨h1, h2⟩ := HIN.out j hlt; have h2' : (k : Int) + (j : Int) < (s.length : Int) := by omega
    go_wp2_with (go_at_call 179; (with_reducible refine (HH.out (k + j) _ hIr hRr).mono ?_); rintro e w1 ⟨rfl, hq⟩; have hR1 := hRr.of_bl hq.bl; have hI1 := HQ.out _ _ hIr hq; have hg1 := gb_trans hg (gb_qt (b := some b) hq); obtain ⟨c0, c1, c2, c3, f0, f1, f2, f3⟩ := hR1.cells); go_roundw; case rel => exact ⟨j + 1, by omega, hR1.seti (by omega), gb_set hg1 _ _, HI2.out _ _ hI1⟩
    case measure =>
     have hz := (hR1.seti (n := (k : Int) + (j : Int) + 1) (j := k + j + 1) (by omega)).at_eq; rw [hRr.at_eq, hz]; omega
  · obtain rfl : j = t.length := by omega
    have h1 := HOUT.out; go_wp2_with (first | (go_at_call 179; (with_reducible refine (HH.out (k + t.length) _ hIr hRr).mono ?_); rintro e w1 ⟨rfl, hq⟩; have hR1 := hRr.of_bl hq.bl; have hI1 := HQ.out _ _ hIr hq; have hg1 := gb_trans hg (gb_qt (b := some b) hq); obtain ⟨c0, c1, c2, c3, f0, f1, f2, f3⟩ := hR1.cells) | go_quiet (fail)); go_ret; refine ⟨?_, hR1.of_bl ((Bl.refl _).drewN _), gb_drewN hg1 _, HQ.out _ _ hI1 ((Qt.refl _).drewN _)⟩; have e : List.take (k + t.length - k) (List.drop k s) = t := by rw [Nat.add_sub_cancel_left]; exact HT.out
    show Ending.returned (.string ⟨(List.take (k + t.length - k) (List.drop k s)).toArray⟩) = _; rw [e]
end Go.Proofs.YtamdlihgecpbkaaGreatDoor

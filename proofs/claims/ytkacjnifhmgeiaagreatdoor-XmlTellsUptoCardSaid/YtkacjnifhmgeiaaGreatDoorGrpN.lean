/- Tokens: Bytes, Print of the program. · Tokens: what is printed is read as it was; what is read is right: plain laws. · Tokens: the reference: nextOf, AttrBytes, TokenBytes, CheckAttrs. · Documents, the reference: its reader in memory; fail, pass, skip, blanks, aside, misc, told. -/
import Derived.Test.YtkacjnifhmgeiaaGreatDoorTokWr
import Derived.Test.YtkacjnifhmgeiaaGreatDoorGrpE
import Derived.Test.YtkacjnifhmgeiaaGreatDoorXmlJ
namespace Go.Proofs.YtkacjnifhmgeiaaGreatDoor
open Go.RowKit

def szT (l : List Tok) : Nat := (l.map fun t => t.2.1.length + szA t.2.2.1 + 6 * t.2.2.2.length + 5).sum
theorem tkW_len (t : Tok) : (tkW t).length ≤ t.2.1.length + szA t.2.2.1 + 6 * t.2.2.2.length + 5 := by
  have h1 := PutL_len t.2.2.2
  have h2 := atW_len t.2.2.1
  unfold tkW
  (repeat' split) <;> simp <;> omega
theorem tksW_len (l : List Tok) : (tksW l).length ≤ szT l := by
  induction l with
  | nil => simp [tksW, szT]
  | cons t l ih =>
    have := tkW_len t
    simp only [tksW, List.flatMap_cons, szT, List.map_cons, List.sum_cons, List.length_append] at *
    omega
theorem szT_take (l : List Tok) (k : Nat) : szT (l.take k) ≤ szT l := by
  induction l generalizing k with
  | nil => simp [szT]
  | cons a l ih =>
    cases k with
    | zero => simp [szT]
    | succ k => have := ih k; simp only [szT, List.take_succ_cons, List.map_cons, List.sum_cons] at *; omega
theorem szT_get (l : List Tok) (k : Nat) (h : k < l.length) : l[k].2.1.length + szA l[k].2.2.1 + 6 * l[k].2.2.2.length + 5 ≤ szT l := by
  induction l generalizing k with
  | nil => simp at h
  | cons a l ih =>
    cases k with
    | zero => simp [szT]
    | succ k => have := ih k (by simpa using h); simp only [szT, List.map_cons, List.sum_cons, List.getElem_cons_succ] at *; omega
theorem szA_len (l : List Atr) : l.length ≤ szA l := by
  induction l with
  | nil => simp
  | cons a l ih => simp only [szA, List.map_cons, List.sum_cons, List.length_cons] at *; omega
theorem new_kept4 {W W' : World} {x y z u : Value} {t : TypeId} {C : Prop} (hb : Bl (W.alloc (.cells #[x, y, z, u] t)).drew W') (k : W'.cell? ⟨W.heap.size, 0, none⟩ = some x → W'.cell? ⟨W.heap.size, 1, none⟩ = some y → W'.cell? ⟨W.heap.size, 2, none⟩ = some z → W'.cell? ⟨W.heap.size, 3, none⟩ = some u → C) : C := by
  have hlt : W.heap.size < (W.alloc (.cells #[x, y, z, u] t)).drew.heap.size := by simp
  refine k ?_ ?_ ?_ ?_
  · rw [hb.cells.1 _ 0 hlt]; simp
  · rw [hb.cells.1 _ 1 hlt]; simp
  · rw [hb.cells.1 _ 2 hlt]; simp
  · rw [hb.cells.1 _ 3 hlt]; simp

end Go.Proofs.YtkacjnifhmgeiaaGreatDoor

namespace Go.Proofs.YtkacjnifhmgeiaaGreatDoor
open Go.RowKit

theorem tw_app {α : Type} (p : α → Bool) (a : List α) (c : α) (r : List α) (ha : a.all p = true) (hc : p c = false) : (a ++ c :: r).takeWhile p = a ∧ (a ++ c :: r).dropWhile p = c :: r := by
  induction a with
  | nil => simp [hc]
  | cons x a ih =>
    simp only [List.all_cons, Bool.and_eq_true] at ha
    have := ih ha.2
    simp [ha.1, this.1, this.2]
theorem tw_all {α : Type} (p : α → Bool) (a : List α) (ha : a.all p = true) : a.takeWhile p = a ∧ a.dropWhile p = [] := by
  induction a with
  | nil => simp
  | cons x a ih =>
    simp only [List.all_cons, Bool.and_eq_true] at ha
    have := ih ha.2
    simp [ha.1, this.1, this.2]
theorem lwr_iff (c : UInt8) : lwr c = true ↔ 97 ≤ c.toNat ∧ c.toNat ≤ 122 := by simp [lwr]
theorem nmc_facts {c : UInt8} (h : nmc c = true) : wht c = false ∧ wsl c = false ∧ nch c = true ∧ tch c = true ∧ vch c = true ∧ fld c = c := by
  have h' : (97 ≤ c.toNat ∧ c.toNat ≤ 122) ∨ (48 ≤ c.toNat ∧ c.toNat ≤ 57) ∨ c.toNat = 45 := by
    simp only [nmc, lwr, dgt, Bool.or_eq_true, Bool.and_eq_true, decide_eq_true_eq] at h; omega
  have hw : wht c = false := by simp [wht]; omega
  refine ⟨hw, ?_, ?_, ?_, ?_, ?_⟩
  · simp [wsl, hw]; omega
  · simp [nch, hw]; omega
  · simp [tch, hw]; omega
  · simp [vch, hw]; omega
  · unfold fld; rw [if_neg (by omega)]
theorem lwr_nmc {c : UInt8} (h : lwr c = true) : nmc c = true := by simp [nmc, h]
theorem isNm_cons {l : List UInt8} (h : isNm l = true) : ∃ c r, l = c :: r ∧ lwr c = true ∧ r.all nmc = true ∧ r.length ≤ 19 := by
  cases l with
  | nil => simp [isNm] at h
  | cons c r => simp only [isNm, Bool.and_eq_true, decide_eq_true_eq] at h; exact ⟨c, r, rfl, h.1.1, h.1.2, h.2⟩
theorem isNm_all {l : List UInt8} (h : isNm l = true) : l.all nmc = true := by
  obtain ⟨c, r, rfl, h1, h2, _⟩ := isNm_cons h
  simp [lwr_nmc h1, h2]
theorem all_imp {l : List UInt8} {p q : UInt8 → Bool} (h : l.all p = true) (hpq : ∀ c, p c = true → q c = true) : l.all q = true := by
  rw [List.all_eq_true] at *; exact fun c hc => hpq c (h c hc)
theorem fold_nm {l : List UInt8} (h : l.all nmc = true) : fold l = l := by
  induction l with
  | nil => rfl
  | cons c l ih => simp only [List.all_cons, Bool.and_eq_true] at h; simp only [fold, List.map_cons] at *; rw [(nmc_facts h.1).2.2.2.2.2, ih h.2]
theorem isNm_len {l : List UInt8} (h : isNm l = true) : l.length ≤ 20 := by
  obtain ⟨c, r, rfl, _, _, h3⟩ := isNm_cons h; simp; omega

theorem put_no34 (v : List UInt8) : (PutL v).all (· != 34) = true := by
  rw [List.all_eq_true]; intro c hc; simpa using (PutL_no v c hc).2.2
theorem valOf_quoted (v r : List UInt8) : valOf (34 :: PutL v ++ 34 :: r) = some (PutL v, r) := by
  have h := tw_app (· != 34) (PutL v) 34 r (put_no34 v) (by simp)
  unfold valOf
  rw [List.cons_append, List.dropWhile_cons_of_neg (by decide)]
  simp only [true_or, if_true, h.1, h.2]
theorem oneAt_written (c : UInt8) (n v r : List UInt8) (hc : lwr c = true) (hn : n.all nmc = true) : oneAt c (n ++ 61 :: 34 :: PutL v ++ 34 :: r) = some ((c :: n, v), r) := by
  have h1 := tw_app nch n 61 (34 :: PutL v ++ 34 :: r) (all_imp hn fun c h => (nmc_facts h).2.2.1) (by decide)
  unfold oneAt
  rw [List.append_assoc, List.cons_append, h1.1, h1.2, List.dropWhile_cons_of_neg (by decide)]
  simp only [if_true, valOf_quoted, Tk_put]
  rw [fold_nm (by simp [lwr_nmc hc, hn])]
theorem atEF_cons {p : List Atr} {a : Atr} {l : List Atr} (h : atEF p (a :: l) = 0) : isNm a.1 = true ∧ (p.any fun x => x.1 == a.1) = false ∧ atEF (p ++ [a]) l = 0 := by
  unfold atEF at h
  cases h1 : isNm a.1
  · rw [h1] at h; simp at h
  · rw [h1] at h
    simp only [Bool.true_eq_false, if_false] at h
    split at h
    · simp at h
    · rename_i h2; exact ⟨rfl, Bool.eq_false_iff.2 h2, h⟩
theorem atP_written (al : List Atr) : ∀ (out : List Atr) (r : List UInt8), atEF out al = 0 → atP (atW al ++ 62 :: r) out = some (out ++ al, r) := by
  induction al with
  | nil =>
    intro out r _
    rw [List.append_nil]
    exact atP_end (by simp [atW, wsl, wht])
  | cons a al ih =>
    intro out r h
    obtain ⟨h1, h2, h3⟩ := atEF_cons h
    obtain ⟨n, v⟩ := a
    obtain ⟨c, m, rfl, hc, hm, _⟩ := isNm_cons h1
    have hw := nmc_facts (lwr_nmc hc)
    have e : atW ((c :: m, v) :: al) ++ 62 :: r = 32 :: c :: (m ++ 61 :: 34 :: PutL v ++ 34 :: (atW al ++ 62 :: r)) := by simp [atW]
    have hd : (32 :: c :: (m ++ 61 :: 34 :: PutL v ++ 34 :: (atW al ++ 62 :: r))).dropWhile wsl = c :: (m ++ 61 :: 34 :: PutL v ++ 34 :: (atW al ++ 62 :: r)) := by
      rw [List.dropWhile_cons_of_pos (by decide), List.dropWhile_cons_of_neg (by simp [hw.2.1])]
    rw [e, atP_go hd (by rintro rfl; exact absurd hc (by decide)) (oneAt_written c m v _ hc hm)]
    have ha : addA out (c :: m, v) = out ++ [(c :: m, v)] := by
      unfold addA; rw [h1, h2]; rfl
    rw [ha, ih _ _ h3, List.append_assoc]; rfl
theorem ltr_lwr {c : UInt8} (h : lwr c = true) : ltr c = true := by simp [ltr, h]
theorem atW_head (al : List Atr) (r : List UInt8) : ∃ c t, atW al ++ 62 :: r = c :: t ∧ tch c = false := by
  cases al with
  | nil => exact ⟨62, r, rfl, by decide⟩
  | cons a al => exact ⟨32, _, rfl, by decide⟩
theorem tagP_open (n : List UInt8) (al : List Atr) (r : List UInt8) (hn : isNm n = true) (ha : atE al = 0) : tagP (n ++ atW al ++ 62 :: r) = some (some (some (2, n, al, []), r)) := by
  obtain ⟨c, m, rfl, hc, hm, _⟩ := isNm_cons hn
  obtain ⟨d, t, e, hd⟩ := atW_head al r
  have hall : (c :: m).all tch = true := all_imp (isNm_all hn) fun c h => (nmc_facts h).2.2.2.1
  have h1 := tw_app tch (c :: m) d t hall hd
  rw [← e] at h1
  rw [List.append_assoc]
  simp only [List.cons_append] at h1 ⊢
  rw [tagP_cons, if_pos (ltr_lwr hc), h1.1, h1.2, atP_written al [] r ha, fold_nm (isNm_all hn)]; rfl
theorem cutS_62 (a r : List UInt8) (h : 62 ∉ a) : cutS [62] (a ++ 62 :: r) = some r := by
  induction a with
  | nil => simp [cutS, pre]
  | cons c a ih =>
    simp only [List.mem_cons, not_or] at h
    rw [List.cons_append]; unfold cutS
    rw [if_neg (by simp [pre]; exact fun e => h.1 e), ih h.2]
theorem tagP_close (n r : List UInt8) (hn : isNm n = true) : tagP (47 :: n ++ 62 :: r) = some (some (some (3, n, [], []), r)) := by
  obtain ⟨c, m, rfl, hc, hm, _⟩ := isNm_cons hn
  have hall : (c :: m).all tch = true := all_imp (isNm_all hn) fun c h => (nmc_facts h).2.2.2.1
  have h1 := tw_app tch (c :: m) 62 r hall (by decide)
  simp only [List.cons_append] at h1 ⊢
  rw [tagP_cons, if_neg (by decide), if_pos ⟨rfl, by simp [ltr_lwr hc]⟩, h1.1, h1.2]
  have := cutS_62 [] r (by simp)
  simp only [List.nil_append] at this
  rw [this, fold_nm (isNm_all hn)]; rfl
theorem put_no60 (v : List UInt8) : 60 ∉ PutL v := fun h => (PutL_no v 60 h).1 rfl
theorem flsh_put (x : List UInt8) (hx : x ≠ []) (out : List Tok) : flsh (PutL x) out = out ++ [(1, [], [], x)] := by
  unfold flsh; rw [Tk_put]; rw [if_neg hx]
theorem flsh_nil (out : List Tok) : flsh [] out = out := by unfold flsh; rw [Tk_nil]; rfl
theorem tkE_cases {t : Tok} (h : tkE t = 0) : (∃ x, x ≠ [] ∧ t = (1, [], [], x)) ∨ (∃ n al, isNm n = true ∧ atE al = 0 ∧ t = (2, n, al, [])) ∨ (∃ n, isNm n = true ∧ t = (3, n, [], [])) := by
  obtain ⟨k, n, al, x⟩ := t
  unfold tkE at h
  simp only [] at h
  split at h
  · simp at h
  rename_i h1
  split at h
  · simp at h
  rename_i h2
  simp only [not_or, not_and, Decidable.not_not, ne_eq] at h2
  obtain ⟨h2, h3, h4⟩ := h2
  split at h
  · rename_i h5
    subst h5
    obtain ⟨rfl, rfl, hx⟩ := h2 rfl
    exact Or.inl ⟨x, hx, rfl⟩
  rename_i h5
  have hx := h3 h5
  split at h
  · simp at h
  rename_i h6
  have h6 : isNm n = true := by simpa using h6
  have : k = 2 ∨ k = 3 := by omega
  rcases this with rfl | rfl
  · exact Or.inr (Or.inl ⟨n, al, h6, h, by rw [hx]⟩)
  · exact Or.inr (Or.inr ⟨n, h6, by rw [hx, h4 rfl]⟩)
/-- WHAT IS PRINTED IS READ AS IT WAS. -/
theorem tk_written (l : List Tok) : ∀ (k : Int) (text : List UInt8) (out : List Tok), tkEF k l = 0 → (text = [] ∨ k = 1 ∧ ∃ x, x ≠ [] ∧ text = PutL x) → tkP (tksW l) text out = flsh text out ++ l := by
  induction l with
  | nil => intro k text out _ _; rw [List.append_nil]; rfl
  | cons t l ih =>
    intro k text out h ht
    unfold tkEF at h
    by_cases he : tkE t = 0
    · simp only [he, ne_eq, not_true, if_false] at h
      by_cases hk : t.1 = 1 ∧ k = 1
      · rw [if_pos hk] at h; simp at h
      · rw [if_neg hk] at h
        have e : tksW (t :: l) = tkW t ++ tksW l := by simp [tksW]
        rw [e]
        rcases tkE_cases he with ⟨x, hx, rfl⟩ | ⟨n, al, hn, ha, rfl⟩ | ⟨n, hn, rfl⟩
        · rcases ht with rfl | ⟨rfl, _⟩
          · rw [show tkW (1, [], [], x) = PutL x from rfl, tkP_run _ _ _ _ (put_no60 x), List.nil_append, ih 1 _ _ h (Or.inr ⟨rfl, x, hx, rfl⟩), flsh_put x hx, flsh_nil]; simp
          · exact absurd ⟨rfl, rfl⟩ hk
        · have e2 : tkW (2, n, al, []) ++ tksW l = 60 :: (n ++ atW al ++ 62 :: tksW l) := by simp [tkW]
          rw [e2, tkP_tag _ _ _ _ _ (tagP_open n al _ hn ha) hn, ih 2 _ _ h (Or.inl rfl), flsh_nil]; simp
        · have e2 : tkW (3, n, [], []) ++ tksW l = 60 :: (47 :: n ++ 62 :: tksW l) := by simp [tkW]
          rw [e2, tkP_tag _ _ _ _ _ (tagP_close n _ hn) hn, ih 3 _ _ h (Or.inl rfl), flsh_nil]; simp
    · simp only [he, ne_eq, not_false_eq_true, if_true] at h
theorem TokL_written (l : List Tok) (h : ckE l = 0) : TokL (tksW l) = l := by
  unfold ckE at h
  split at h
  · simp at h
  · have := tk_written l 0 [] [] h (Or.inl rfl)
    rw [flsh_nil] at this; exact this

/-- Tokens that are right, the last of which is none of text. -/
def lastK (l : List Tok) : Int := match l.getLast? with | some t => t.1 | none => 0
theorem lastK_snoc (l : List Tok) (t : Tok) : lastK (l ++ [t]) = t.1 := by simp [lastK]
theorem tkEF_snoc (l : List Tok) (t : Tok) : ∀ k : Int, tkEF k l = 0 → tkE t = 0 → ¬(t.1 = 1 ∧ (if l = [] then k else lastK l) = 1) → tkEF k (l ++ [t]) = 0 := by
  induction l with
  | nil =>
    intro k _ ht hk
    simp only [List.nil_append, tkEF, ht, ne_eq, not_true, if_false]
    rw [if_pos rfl] at hk
    rw [if_neg hk]
  | cons a l ih =>
    intro k h ht hk
    simp only [List.cons_append]
    unfold tkEF at h ⊢
    by_cases he : tkE a = 0
    · simp only [he, ne_eq, not_true, if_false] at h ⊢
      by_cases hk2 : a.1 = 1 ∧ k = 1
      · rw [if_pos hk2] at h; simp at h
      · rw [if_neg hk2] at h ⊢
        refine ih a.1 h ht ?_
        rw [if_neg (by simp)] at hk
        rintro ⟨h1, h2⟩
        refine hk ⟨h1, ?_⟩
        cases l with
        | nil => simpa [lastK] using h2
        | cons b l => rw [if_neg (by simp)] at h2; simpa [lastK] using h2
    · simp only [he, ne_eq, not_false_eq_true, if_true] at h
/-- What has been read so far. -/
def okT (l : List Tok) : Prop := tkEF 0 l = 0 ∧ (l = [] ∨ lastK l ≠ 1)
theorem okT_flsh {l : List Tok} (h : okT l) (x : List UInt8) : tkEF 0 (flsh x l) = 0 := by
  unfold flsh
  split
  · exact h.1
  · rename_i hx
    refine tkEF_snoc l _ 0 h.1 (by simp [tkE, hx]) ?_
    rintro ⟨_, h2⟩
    split at h2
    · exact absurd h2 (by decide)
    · rcases h.2 with h3 | h3
      · contradiction
      · exact h3 h2
theorem okT_tag {l : List Tok} (h : okT l) (x : List UInt8) (t : Tok) (ht : tkE t = 0) (hk : t.1 ≠ 1) : okT (flsh x l ++ [t]) :=
  ⟨tkEF_snoc _ _ 0 (okT_flsh h x) ht (fun hh => hk hh.1), Or.inr (by rw [lastK_snoc]; exact hk)⟩
theorem atEF_snoc (l : List Atr) (a : Atr) (ha : isNm a.1 = true) : ∀ p : List Atr, atEF p l = 0 → ((p ++ l).any fun x => x.1 == a.1) = false → atEF p (l ++ [a]) = 0 := by
  induction l with
  | nil =>
    intro p _ hd
    rw [List.append_nil] at hd
    simp only [List.nil_append, atEF, ha, Bool.true_eq_false, if_false, hd, Bool.false_eq_true]
  | cons b l ih =>
    intro p h hd
    obtain ⟨h1, h2, h3⟩ := atEF_cons h
    simp only [List.cons_append]
    unfold atEF
    rw [h1, h2]
    simp only [Bool.true_eq_false, if_false, Bool.false_eq_true]
    exact ih _ h3 (by rw [List.append_assoc]; simpa using hd)
theorem addA_ok {out : List Atr} (h : atE out = 0) (a : Atr) : atE (addA out a) = 0 := by
  unfold addA
  split
  · rename_i hh
    simp only [Bool.and_eq_true, Bool.not_eq_true'] at hh
    exact atEF_snoc out a hh.1 [] h (by simpa using hh.2)
  · exact h
theorem atF_ok (k : Nat) : ∀ (t : List UInt8) (out l : List Atr) (r : List UInt8), atE out = 0 → atF k t out = some (l, r) → atE l = 0 := by
  induction k with
  | zero => intro t out l r _ h; simp [atF] at h
  | succ k ih =>
    intro t out l r ho h
    unfold atF at h
    split at h
    · cases h
    · split at h
      · simp only [Option.some.injEq, Prod.mk.injEq] at h; obtain ⟨rfl, _⟩ := h; exact ho
      · split at h
        · cases h
        · exact ih _ _ _ _ (addA_ok ho _) h
theorem tagP_ok (r u : List UInt8) (t : Tok) (h : tagP r = some (some (some t, u))) (hn : isNm t.2.1 = true) : tkE t = 0 ∧ t.1 ≠ 1 := by
  unfold tagP at h
  split at h
  · cases h
  · rename_i c s
    split at h
    · cases e : atP ((c :: s).dropWhile tch) [] with
      | none => rw [e] at h; simp at h
      | some x =>
        rw [e] at h
        simp only [Option.map_some, Option.some.injEq, Prod.mk.injEq] at h
        obtain ⟨rfl, _⟩ := h
        have ha := atF_ok _ _ [] x.1 x.2 rfl e
        simp only [] at hn
        refine ⟨?_, by simp⟩
        simp [tkE, hn, ha]
    split at h
    · cases e : cutS [62] (s.dropWhile tch) with
      | none => rw [e] at h; simp at h
      | some x =>
        rw [e] at h
        simp only [Option.map_some, Option.some.injEq, Prod.mk.injEq] at h
        obtain ⟨rfl, _⟩ := h
        simp only [] at hn
        refine ⟨?_, by simp⟩
        simp [tkE, hn, atE, atEF]
    split at h
    · cases e : cutS [45, 45, 62] s with
      | none => rw [e] at h; simp at h
      | some x => rw [e] at h; simp at h
    split at h
    · cases e : cutS [62] (c :: s) with
      | none => rw [e] at h; simp at h
      | some x => rw [e] at h; simp at h
    · cases h
theorem flsh_len (x : List UInt8) (l : List Tok) : (flsh x l).length ≤ l.length + (if x = [] then 0 else 1) := by
  unfold flsh
  by_cases hx : x = []
  · subst hx; simp [Tk_nil]
  · rw [if_neg hx]; split <;> simp
/-- WHAT IS READ IS RIGHT; of no more tokens than the text has bytes. -/
theorem tkF_right (k : Nat) : ∀ (s text : List UInt8) (out : List Tok), s.length ≤ k → okT out → tkEF 0 (tkF k s text out) = 0 ∧ (tkF k s text out).length ≤ out.length + (if text = [] then 0 else 1) + s.length := by
  induction k with
  | zero => intro s text out hs h; exact ⟨okT_flsh h text, by have := flsh_len text out; simp only [tkF]; omega⟩
  | succ k ih =>
    intro s text out hs h
    cases s with
    | nil => exact ⟨okT_flsh h text, by have := flsh_len text out; simp only [tkF]; omega⟩
    | cons c r =>
      simp only [List.length_cons, Nat.add_le_add_iff_right] at hs ⊢
      have h01 : (if text = [] then 0 else 1) ≤ 1 := by split <;> omega
      unfold tkF
      split
      · split
        · have := ih r (text ++ [60]) out hs h
          rw [if_neg (by simp)] at this
          exact ⟨this.1, by omega⟩
        · refine ⟨okT_flsh h _, ?_⟩
          have := flsh_len (text ++ 60 :: r) out
          rw [if_neg (by simp)] at this; omega
        · rename_i u e
          have hl := tagP_len _ _ _ e
          have := ih u text out (by omega) h
          exact ⟨this.1, by omega⟩
        · rename_i t u e
          have hl := tagP_len _ _ _ e
          split
          · rename_i hn
            have ht := tagP_ok _ _ _ e hn
            have h1 := ih u [] _ (by omega) (okT_tag h text t ht.1 ht.2)
            have h2 := flsh_len text out
            rw [if_pos rfl] at h1
            simp only [List.length_append, List.length_singleton] at h1
            exact ⟨h1.1, by omega⟩
          · have := ih u text out (by omega) h
            exact ⟨this.1, by omega⟩
      · have := ih r (text ++ [c]) out hs h
        rw [if_neg (by simp)] at this
        exact ⟨this.1, by omega⟩
theorem TokL_right (s : List UInt8) : tkEF 0 (TokL s) = 0 ∧ (TokL s).length ≤ s.length := by
  have := tkF_right s.length s [] [] (Nat.le_refl _) ⟨rfl, Or.inl rfl⟩
  simpa [TokL, tkP] using this
theorem TokL_ck (s : List UInt8) (h : s.length ≤ 3000) : ckE (TokL s) = 0 := by
  have := TokL_right s
  unfold ckE; rw [if_neg (by omega)]; exact this.1

/-- TokenPlain: text without < and & is a text by itself; a comment behind it is nothing. -/
def txtL (s : List UInt8) : List Tok := if s = [] then [] else [(1, [], [], s)]
theorem flsh_txt (s : List UInt8) (h38 : 38 ∉ s) : flsh s [] = txtL s := by
  unfold flsh txtL; rw [Tk_none s h38]; rfl
theorem TokL_run (s r : List UInt8) (h60 : 60 ∉ s) : TokL (s ++ r) = tkP r s [] := by
  unfold TokL; rw [tkP_run s r [] [] h60]; rfl
theorem plain1 (s : List UInt8) (h60 : 60 ∉ s) (h38 : 38 ∉ s) : TokL s = txtL s := by
  have := TokL_run s [] h60
  rw [List.append_nil] at this
  rw [this, tkP_nil, flsh_txt s h38]
theorem cutS_com (c : List UInt8) (h : 62 ∉ c) : ∀ _p : List UInt8, cutS [45, 45, 62] (c ++ [45, 45, 62]) = some [] := by
  intro _
  induction c with
  | nil => decide
  | cons x c ih =>
    simp only [List.mem_cons, not_or] at h
    rw [List.cons_append]; unfold cutS
    rw [ih h.2]
    split
    · rename_i hp
      exfalso
      match c, h with
      | [], _ => simp [pre] at hp
      | [a], h => simp [pre] at hp
      | a :: b :: c, h =>
        simp only [List.mem_cons, not_or] at h
        simp only [pre, List.cons_append, List.isPrefixOf, Bool.and_eq_true, beq_iff_eq] at hp
        exact h.2.2.1 hp.2.2.1
    · rfl
theorem plain2 (s c : List UInt8) (h60 : 60 ∉ s) (h38 : 38 ∉ s) (hc : 62 ∉ c) : TokL (s ++ [60, 33, 45, 45] ++ c ++ [45, 45, 62]) = txtL s := by
  have e : tagP (33 :: 45 :: 45 :: (c ++ [45, 45, 62])) = some (some (none, [])) := by
    rw [tagP_cons, if_neg (by decide), if_neg (by rintro ⟨h, _⟩; exact absurd h (by decide)), if_pos (by simp [pre])]
    have := cutS_com (45 :: 45 :: c) (by simp only [List.mem_cons, not_or]; exact ⟨by decide, by decide, hc⟩) []
    simp only [List.cons_append] at this
    rw [this]; rfl
  have e2 : s ++ [60, 33, 45, 45] ++ c ++ [45, 45, 62] = s ++ 60 :: (33 :: 45 :: 45 :: (c ++ [45, 45, 62])) := by simp
  rw [e2, TokL_run _ _ h60, tkP_skip _ _ _ _ e, tkP_nil, flsh_txt s h38]
theorem plain3 (s c : List UInt8) (h60 : 60 ∉ s) (h38 : 38 ∉ s) (hc : 62 ∉ c) : TokL ([60, 63] ++ c ++ [62] ++ s) = txtL s := by
  have e : tagP (63 :: (c ++ 62 :: s)) = some (some (none, s)) := by
    rw [tagP_cons, if_neg (by decide), if_neg (by rintro ⟨h, _⟩; exact absurd h (by decide)), if_neg (by simp [pre]), if_pos (by decide)]
    have := cutS_62 (63 :: c) s (by simp only [List.mem_cons, not_or]; exact ⟨by decide, hc⟩)
    simp only [List.cons_append] at this
    rw [this]; rfl
  have e2 : [60, 63] ++ c ++ [62] ++ s = 60 :: (63 :: (c ++ 62 :: s)) := by simp
  rw [e2]
  unfold TokL
  rw [tkP_skip _ _ _ _ e]
  have := tkP_run s [] [] [] h60
  rw [List.append_nil] at this
  rw [this, tkP_nil, List.nil_append, flsh_txt s h38]

/-- TokenTag. -/
def tagL (v : List UInt8) : List Tok := [(2, [120], [([107], v), ([98], [])], [])]
theorem valOf_q (q : UInt8) (v r : List UInt8) (hq : q = 34 ∨ q = 39) (hv : v.all (· != q) = true) : valOf (q :: v ++ q :: r) = some (v, r) := by
  have h := tw_app (· != q) v q r hv (by simp)
  have hw : wht q = false := by rcases hq with rfl | rfl <;> decide
  unfold valOf
  rw [List.cons_append, List.dropWhile_cons_of_neg (by simp [hw])]
  simp only [hq, if_true, h.1, h.2]
theorem valOf_sp (r : List UInt8) : valOf (32 :: r) = valOf r := by
  unfold valOf; rw [List.dropWhile_cons_of_pos (by decide)]
theorem one_k (q : UInt8) (v r : List UInt8) (hq : q = 34 ∨ q = 39) (hv : (PutL v).all (· != q) = true) : oneAt 107 (61 :: q :: PutL v ++ q :: r) = some (([107], v), r) := by
  unfold oneAt
  rw [List.cons_append, List.dropWhile_cons_of_neg (by decide), List.dropWhile_cons_of_neg (by decide), List.takeWhile_cons_of_neg (by decide)]
  simp only [if_true, valOf_q q (PutL v) r hq hv, Tk_put]
  rfl
theorem one_K (v r : List UInt8) : oneAt 75 (32 :: 61 :: 32 :: 34 :: PutL v ++ 34 :: r) = some (([107], v), r) := by
  unfold oneAt
  simp only [List.cons_append]
  rw [List.dropWhile_cons_of_neg (by decide), List.dropWhile_cons_of_pos (by decide), List.dropWhile_cons_of_neg (by decide), List.takeWhile_cons_of_neg (by decide)]
  have h := valOf_q 34 (PutL v) r (Or.inl rfl) (put_no34 v)
  rw [List.cons_append] at h
  simp only [if_true, valOf_sp, h, Tk_put]
  rfl
theorem addA_k (v : List UInt8) : addA [] ([107], v) = [([107], v)] := by simp [addA, isNm, lwr]
theorem addA_b (v : List UInt8) : addA [([107], v)] ([98], []) = [([107], v), ([98], [])] := by simp [addA, isNm, lwr]
theorem atP_b (v r : List UInt8) : atP (32 :: 98 :: 62 :: r) [([107], v)] = some ([([107], v), ([98], [])], r) := by
  have h1 : oneAt 98 (62 :: r) = some (([98], []), 62 :: r) := by
    unfold oneAt
    rw [List.dropWhile_cons_of_neg (by decide), List.dropWhile_cons_of_neg (by decide), List.takeWhile_cons_of_neg (by decide)]
    rfl
  rw [atP_go (c := 98) (r := 62 :: r) (by rw [List.dropWhile_cons_of_pos (by decide), List.dropWhile_cons_of_neg (by decide)]) (by decide) h1, atP_end (r := r) (by rw [List.dropWhile_cons_of_neg (by decide)]), addA_b]
theorem atP_B (v r : List UInt8) : atP (32 :: 66 :: 47 :: 62 :: r) [([107], v)] = some ([([107], v), ([98], [])], r) := by
  have h1 : oneAt 66 (47 :: 62 :: r) = some (([98], []), 47 :: 62 :: r) := by
    unfold oneAt
    rw [List.dropWhile_cons_of_neg (by decide), List.dropWhile_cons_of_neg (by decide), List.takeWhile_cons_of_neg (by decide)]
    rfl
  rw [atP_go (c := 66) (r := 47 :: 62 :: r) (by rw [List.dropWhile_cons_of_pos (by decide), List.dropWhile_cons_of_neg (by decide)]) (by decide) h1, atP_end (r := r) (by rw [List.dropWhile_cons_of_pos (by decide), List.dropWhile_cons_of_neg (by decide)]), addA_b]
theorem atP_bq (v r : List UInt8) : atP (32 :: 98 :: 61 :: 39 :: 39 :: 62 :: r) [([107], v)] = some ([([107], v), ([98], [])], r) := by
  have h0 := valOf_q 39 [] (62 :: r) (Or.inr rfl) rfl
  rw [List.cons_append, List.nil_append] at h0
  have h1 : oneAt 98 (61 :: 39 :: 39 :: 62 :: r) = some (([98], []), 62 :: r) := by
    unfold oneAt
    rw [List.dropWhile_cons_of_neg (by decide), List.dropWhile_cons_of_neg (by decide), List.takeWhile_cons_of_neg (by decide)]
    simp only [if_true, h0, Tk_nil]
    rfl
  rw [atP_go (c := 98) (r := 61 :: 39 :: 39 :: 62 :: r) (by rw [List.dropWhile_cons_of_pos (by decide), List.dropWhile_cons_of_neg (by decide)]) (by decide) h1, atP_end (r := r) (by rw [List.dropWhile_cons_of_neg (by decide)]), addA_b]
theorem TokL_tag (c : UInt8) (t : List UInt8) (al : List Atr) (hc : ltr c = true) (hf : fld c = 120) (h : atP (32 :: t) [] = some (al, [])) : TokL (60 :: c :: 32 :: t) = [(2, [120], al, [])] := by
  have hw : tch c = true := by
    have : (97 ≤ c.toNat ∧ c.toNat ≤ 122) ∨ (65 ≤ c.toNat ∧ c.toNat ≤ 90) := by
      simp only [ltr, lwr, Bool.or_eq_true, Bool.and_eq_true, decide_eq_true_eq] at hc; omega
    simp [tch, wht]; omega
  have e : tagP (c :: 32 :: t) = some (some (some (2, [120], al, []), [])) := by
    rw [tagP_cons, if_pos hc, List.dropWhile_cons_of_pos hw, List.dropWhile_cons_of_neg (by decide), List.takeWhile_cons_of_pos hw, List.takeWhile_cons_of_neg (by decide), h]
    simp [fold, hf]
  unfold TokL
  rw [tkP_tag _ _ _ _ _ e (show isNm [120] = true by decide), tkP_nil, flsh_nil, flsh_nil]; rfl
theorem tag1 (v : List UInt8) : TokL ([60, 120, 32, 107, 61, 34] ++ PutL v ++ [34, 32, 98, 62]) = tagL v := by
  have h := one_k 34 v (32 :: 98 :: 62 :: []) (Or.inl rfl) (put_no34 v)
  have e : [60, 120, 32, 107, 61, 34] ++ PutL v ++ [34, 32, 98, 62] = 60 :: 120 :: 32 :: 107 :: (61 :: 34 :: PutL v ++ 34 :: (32 :: 98 :: 62 :: [])) := by simp
  rw [e]
  refine TokL_tag 120 _ _ (by decide) (by decide) ?_
  rw [atP_go (c := 107) (by rw [List.dropWhile_cons_of_pos (by decide), List.dropWhile_cons_of_neg (by decide)]) (by decide) h, addA_k, atP_b]
theorem tag2 (v : List UInt8) : TokL ([60, 88, 32, 32, 75, 32, 61, 32, 34] ++ PutL v ++ [34, 32, 66, 47, 62]) = tagL v := by
  have h := one_K v (32 :: 66 :: 47 :: 62 :: [])
  have e : [60, 88, 32, 32, 75, 32, 61, 32, 34] ++ PutL v ++ [34, 32, 66, 47, 62] = 60 :: 88 :: 32 :: 32 :: 75 :: (32 :: 61 :: 32 :: 34 :: PutL v ++ 34 :: (32 :: 66 :: 47 :: 62 :: [])) := by simp
  rw [e]
  refine TokL_tag 88 _ _ (by decide) (by decide) ?_
  rw [atP_go (c := 75) (by rw [List.dropWhile_cons_of_pos (by decide), List.dropWhile_cons_of_pos (by decide), List.dropWhile_cons_of_neg (by decide)]) (by decide) h, addA_k, atP_B]
theorem tag3 (v : List UInt8) (h39 : (PutL v).all (· != 39) = true) : TokL ([60, 120, 32, 107, 61, 39] ++ PutL v ++ [39, 32, 98, 61, 39, 39, 62]) = tagL v := by
  have h := one_k 39 v (32 :: 98 :: 61 :: 39 :: 39 :: 62 :: []) (Or.inr rfl) h39
  have e : [60, 120, 32, 107, 61, 39] ++ PutL v ++ [39, 32, 98, 61, 39, 39, 62] = 60 :: 120 :: 32 :: 107 :: (61 :: 39 :: PutL v ++ 39 :: (32 :: 98 :: 61 :: 39 :: 39 :: 62 :: [])) := by simp
  rw [e]
  refine TokL_tag 120 _ _ (by decide) (by decide) ?_
  rw [atP_go (c := 107) (by rw [List.dropWhile_cons_of_pos (by decide), List.dropWhile_cons_of_neg (by decide)]) (by decide) h, addA_k, atP_bq]
end Go.Proofs.YtkacjnifhmgeiaaGreatDoor

namespace Go.Proofs.YtkacjnifhmgeiaaGreatDoor
open Go.RowKit

/-- Where the first such text begins, from a place on; -1: nowhere. -/
def nxI (s p : List UInt8) (a : Nat) : Int := match cutS p (s.drop a) with | none => -1 | some r => (s.length : Int) - r.length - p.length
theorem cutS_short (p : List UInt8) : ∀ l : List UInt8, l.length < p.length → cutS p l = none := by
  intro l
  induction l with
  | nil => intro _; rfl
  | cons c l ih =>
    intro h
    unfold cutS
    have : pre p (c :: l) = false := by
      cases e : pre p (c :: l)
      · rfl
      · have := pre_len e; omega
    rw [this, ih (by simp at h; omega)]
    rfl
theorem cutS_no {p : List UInt8} {c : UInt8} {r : List UInt8} (h : pre p (c :: r) = false) : cutS p (c :: r) = cutS p r := by
  rw [show cutS p (c :: r) = if pre p (c :: r) then some ((c :: r).drop p.length) else cutS p r from rfl, h]; rfl
theorem cutS_yes {p : List UInt8} {c : UInt8} {r : List UInt8} (h : pre p (c :: r) = true) : cutS p (c :: r) = some ((c :: r).drop p.length) := by
  rw [show cutS p (c :: r) = if pre p (c :: r) then some ((c :: r).drop p.length) else cutS p r from rfl, h]; rfl
set_option maxRecDepth 100000 in
set_option maxHeartbeats 1000000 in
theorem nextOf_c (s p : List UInt8) (a : Nat) (hs : s.length ≤ 4294967296) (hp : p ≠ []) (hp2 : p.length ≤ 1000) (ha : a ≤ s.length) (w : World) :
    Calls Tryz.prog 49 #[.string ⟨s.toArray⟩, .int .i64 (a : Int), .string ⟨p.toArray⟩] w fun e w' => e = .returned (.int .i64 (nxI s p a)) ∧ w = w' := by
  have hp3 : 0 < p.length := List.length_pos_iff.2 hp
  have SC := Lib.hid (fun k hk W => startsAt_c s p k (by omega) hp2 hk W)
  go_enter Tryz.func49, Tryz.ntmps49
  go_wp2
  go_loop [1] (fun i => ∃ k : Nat, k ≤ s.length ∧ i = .int .i64 k ∧ Hid (cutS p (s.drop a) = cutS p (s.drop k))) (fun i => s.length - (intOf i).toNat)
  case atStart => exact ⟨a, ha, rfl, Lib.hid rfl⟩
  case round =>
    obtain ⟨k, hk, rfl, HC⟩ := hrel
    by_cases hlt : k + p.length ≤ s.length
    · have SK := SC.out k hk
      have HD := Lib.hid (show s.drop k = s[k] :: s.drop (k + 1) from List.drop_eq_getElem_cons (by omega))
      cases hY : pre p (s.drop k)
      · rw [hY] at SK
        have HK := Lib.hid SK
        have HE := Lib.hid (show cutS p (s.drop k) = cutS p (s.drop (k + 1)) by
          rw [HD.out] at hY ⊢; exact cutS_no hY)
        clear SK hY
        go_wp2_with (go_at_call 47; (with_reducible refine (HK.out _).mono ?_); rintro e w7 ⟨rfl, rfl⟩)
        go_round
        case rel => exact ⟨k + 1, by omega, by go_num, Lib.hid (HC.out.trans HE.out)⟩
        case measure => simp [intOf]; omega
      · rw [hY] at SK
        have HK := Lib.hid SK
        have HE := Lib.hid (show nxI s p a = k by
          unfold nxI; rw [HC.out]
          have : cutS p (s.drop k) = some (s.drop (k + p.length)) := by
            rw [HD.out] at hY ⊢; rw [cutS_yes hY, ← HD.out, List.drop_drop]
          rw [this]
          simp only [List.length_drop]
          omega)
        clear SK hY
        go_wp2_with (go_at_call 47; (with_reducible refine (HK.out _).mono ?_); rintro e w7 ⟨rfl, rfl⟩)
        go_ret
        exact ⟨by rw [HE.out]; rfl, rfl⟩
    · have HE := Lib.hid (show nxI s p a = -1 by
        unfold nxI; rw [HC.out, cutS_short p _ (by simp; omega)])
      go_wp2
      go_ret
      exact ⟨by rw [HE.out]; rfl, rfl⟩
end Go.Proofs.YtkacjnifhmgeiaaGreatDoor

namespace Go.Proofs.YtkacjnifhmgeiaaGreatDoor
open Go.RowKit

/-- The reference's reader: its text, where it stands, the first error. -/
def Yk (w : World) (b : Nat) (s : List UInt8) (k : Nat) (n : Int) : Prop := w.heap[b]? = some (.cells #[.string ⟨s.toArray⟩, .int .i64 (k : Int), .int .i64 n] 44 (0, 0))
theorem Yk.lt {w : World} {b k : Nat} {s : List UInt8} {n : Int} (h : Yk w b s k n) : b < w.heap.size := (Array.getElem?_eq_some_iff.1 h).1
theorem Yk.cells {w : World} {b k : Nat} {s : List UInt8} {n : Int} (h : Yk w b s k n) :
    w.cell? ⟨b, 0, none⟩ = some (.string ⟨s.toArray⟩) ∧ w.cell? ⟨b, 1, none⟩ = some (.int .i64 (k : Int)) ∧ w.cell? ⟨b, 2, none⟩ = some (.int .i64 n) ∧ w.frozen? ⟨b, 0, none⟩ = false ∧ w.frozen? ⟨b, 1, none⟩ = false ∧ w.frozen? ⟨b, 2, none⟩ = false := by
  unfold Yk at h
  simp [World.cell?, World.frozen?, h]
theorem Yk.of_bl {w w' : World} {b k : Nat} {s : List UInt8} {n : Int} (h : Yk w b s k n) (hb : Bl w w') : Yk w' b s k n := by
  have := h.lt
  unfold Yk at *; rw [Below.block hb b this, h]
theorem Yk.seti {w : World} {b k : Nat} {s : List UInt8} {n : Int} (h : Yk w b s k n) {m : Int} {j : Nat} (e : m = (j : Int)) : Yk (w.setCell ⟨b, 1, none⟩ (.int .i64 m)) b s j n := by
  subst e
  unfold Yk at *
  simp [World.setCell, h, Array.getElem?_modify]
theorem Yk.sete {w : World} {b k : Nat} {s : List UInt8} {n : Int} (h : Yk w b s k n) (m : Int) : Yk (w.setCell ⟨b, 2, none⟩ (.int .i64 m)) b s k m := by
  unfold Yk at *
  simp [World.setCell, h, Array.getElem?_modify]
theorem Yk.of_gb {w w' : World} {b k : Nat} {s : List UInt8} {n : Int} {g : Option Nat} (h : Yk w b s k n) (hg : w.grownBy w' g) (hne : some b ≠ g) : Yk w' b s k n := by
  have := h.lt
  unfold Yk at *; rw [hg.block b this hne, h]
theorem Yk.at_eq {w : World} {b k : Nat} {s : List UInt8} {n : Int} (h : Yk w b s k n) : atOf b w = k := by unfold atOf; rw [h.cells.2.1]; simp [intOf]
/-- The reader, by what is left; no error yet. -/
structure Yr (w : World) (b : Nat) (s t : List UInt8) (n : Int) : Prop where
  rk : Yk w b s (s.length - t.length) n
  sf : t <:+ s
theorem Yr.of_bl {w w' : World} {b : Nat} {s t : List UInt8} {n : Int} (h : Yr w b s t n) (hb : Bl w w') : Yr w' b s t n := ⟨h.rk.of_bl hb, h.sf⟩
theorem Yr.of_gb {w w' : World} {b : Nat} {s t : List UInt8} {n : Int} {g : Option Nat} (h : Yr w b s t n) (hg : w.grownBy w' g) (hne : some b ≠ g) : Yr w' b s t n := ⟨h.rk.of_gb hg hne, h.sf⟩
theorem Yr.far {w : World} {b q o : Nat} {s t : List UInt8} {n : Int} {u : Value} (h : Yr w b s t n) (hne : b ≠ q) : Yr (w.setCell ⟨q, o, none⟩ u) b s t n := h.of_gb (gb_set (gb_refl _ _) o u) (by simp; exact hne)
theorem Yr.len {w : World} {b : Nat} {s t : List UInt8} {n : Int} (h : Yr w b s t n) : t.length ≤ s.length := h.sf.length_le
theorem Yr.meas {w : World} {b : Nat} {s t : List UInt8} {n : Int} (h : Yr w b s t n) : s.length - atOf b w = t.length := by
  rw [h.rk.at_eq]; have := h.len; omega
theorem Yr.adv {w : World} {b : Nat} {s t : List UInt8} {n : Int} (h : Yr w b s t n) {m : Nat} (hm : m ≤ t.length) {i : Int} (hn : i = ((s.length - t.length + m : Nat) : Int)) : Yr (w.setCell ⟨b, 1, none⟩ (.int .i64 i)) b s (t.drop m) n :=
  ⟨h.rk.seti (by rw [hn, drop_len_sub h.sf hm]), (List.drop_suffix _ _).trans h.sf⟩
theorem Yr.err {w : World} {b : Nat} {s t : List UInt8} {n : Int} (h : Yr w b s t n) (m : Int) : Yr (w.setCell ⟨b, 2, none⟩ (.int .i64 m)) b s t m := ⟨h.rk.sete m, h.sf⟩
theorem Yr.at_ {w : World} {b : Nat} {s t : List UInt8} {n : Int} (h : Yr w b s t n) {k : Nat} (hk : k = s.length - t.length) : w.cell? ⟨b, 0, none⟩ = some (.string ⟨s.toArray⟩) ∧ w.cell? ⟨b, 1, none⟩ = some (.int .i64 (k : Int)) ∧ w.cell? ⟨b, 2, none⟩ = some (.int .i64 n) ∧ w.frozen? ⟨b, 0, none⟩ = false ∧ w.frozen? ⟨b, 1, none⟩ = false ∧ w.frozen? ⟨b, 2, none⟩ = false := by
  subst hk; exact h.rk.cells
/-- How a step of the reference's reader ends: in an error it stands somewhere. -/
def YE {α : Type} (w0 : World) (b : Nat) (s : List UInt8) (R : Except Int α) (val : α → Value) (bad : Value → Prop) (rest : α → List UInt8) (e : Ending) (w' : World) : Prop :=
  w0.grownBy w' (some b) ∧ match R with
    | .error n => ∃ v t, e = .returned v ∧ bad v ∧ Yr w' b s t n
    | .ok a => e = .returned (val a) ∧ Yr w' b s (rest a) 0

theorem isBlank_c (c : UInt8) (w : World) : Calls Tryz.prog 66 #[.int .u8 (c.toNat : Int)] w fun e w' => e = .returned (.bool (blk c)) ∧ w = w' := by
  go_enter Tryz.func66, Tryz.ntmps66
  go_wp2
  all_goals
    go_ret
    exact ⟨ret_bool (by rw [Bool.eq_iff_iff]; simp [blk]; omega), rfl⟩
theorem failR_c (n : Int) (hn : n ≠ 0) (b : Nat) (s t : List UInt8) (w : World) (hR : Yr w b s t 0) : Calls Tryz.prog 23 #[.pointer (some ⟨b, 0, none⟩), .int .i64 n] w fun e w' => e = .returned (.tuple #[]) ∧ Yr w' b s t n ∧ w.grownBy w' (some b) := by
  obtain ⟨c0, c1, c2, f0, f1, f2⟩ := hR.rk.cells
  have HN := Lib.hid hn
  clear hn
  go_enter Tryz.func23, Tryz.ntmps23
  go_wp2
  go_end0
  exact ⟨rfl, hR.err n, gb_set (gb_refl _ _) _ _⟩
/-- A second error is none. -/
theorem failR_again (n m : Int) (hm : (m == 0) = false) (b : Nat) (s t : List UInt8) (w : World) (hR : Yr w b s t m) : Calls Tryz.prog 23 #[.pointer (some ⟨b, 0, none⟩), .int .i64 n] w fun e w' => e = .returned (.tuple #[]) ∧ w = w' := by
  obtain ⟨c0, c1, c2, f0, f1, f2⟩ := hR.rk.cells
  go_enter Tryz.func23, Tryz.ntmps23
  go_wp2
  go_end0
  exact ⟨rfl, rfl⟩
set_option maxHeartbeats 1000000 in
theorem passR_no (p : List UInt8) (hp : p.length ≤ 1000) (b : Nat) (s t : List UInt8) (w : World) (hR : Yr w b s t 0) (hs : s.length ≤ 1099511627776) (h : pre p t = false) :
    Calls Tryz.prog 44 #[.pointer (some ⟨b, 0, none⟩), .string ⟨p.toArray⟩] w fun e w' => e = .returned (.tuple #[]) ∧ Yr w' b s t 1 ∧ w.grownBy w' (some b) := by
  obtain ⟨k, hk⟩ : ∃ k, k = s.length - t.length := ⟨_, rfl⟩
  have hd := sfx_drop hR.sf
  obtain ⟨c0, c1, c2, f0, f1, f2⟩ := hR.at_ hk
  rw [← hk] at hd
  have SC := Lib.hid (fun W => startsAt_c s p k (by omega) hp (by omega) W)
  rw [hd, h] at SC
  have HR := Lib.hid hR
  clear hR hd h hk
  go_enter Tryz.func44, Tryz.ntmps44
  go_wp2_with (first | (go_at_call 23; (with_reducible refine (failR_c 1 (by decide) b s t _ (HR.out.of_bl ((Bl.refl _).drewN _))).mono ?_); rintro e w2 ⟨rfl, hR2, hg2⟩) | go_quiet (first | (go_at_call 47; exact quiet_eq (SC.out _))))
  refine bodyPost_ret (results_none rfl _ _ _) rfl ?_
  exact ⟨rfl, hR2, gb_trans (gb_drewN (gb_refl _ _) _) hg2⟩
set_option maxHeartbeats 1000000 in
theorem passR_yes (p : List UInt8) (hp : p.length ≤ 1000) (b : Nat) (s t : List UInt8) (w : World) (hR : Yr w b s t 0) (hs : s.length ≤ 1099511627776) (h : pre p t = true) :
    Calls Tryz.prog 44 #[.pointer (some ⟨b, 0, none⟩), .string ⟨p.toArray⟩] w fun e w' => e = .returned (.tuple #[]) ∧ Yr w' b s (t.drop p.length) 0 ∧ w.grownBy w' (some b) := by
  have hpl := pre_len h
  have hl := hR.len
  obtain ⟨k, hk⟩ : ∃ k, k = s.length - t.length := ⟨_, rfl⟩
  have hd := sfx_drop hR.sf
  obtain ⟨c0, c1, c2, f0, f1, f2⟩ := hR.at_ hk
  rw [← hk] at hd
  have SC := Lib.hid (fun W => startsAt_c s p k (by omega) hp (by omega) W)
  rw [hd, h] at SC
  have HR := Lib.hid hR
  have HK := Lib.hid hk
  have HP := Lib.hid hpl
  have hkl : k + p.length ≤ s.length := by omega
  clear hR hd h hk hpl
  go_enter Tryz.func44, Tryz.ntmps44
  go_wp2_with (go_quiet (first | (go_at_call 47; exact quiet_eq (SC.out _))))
  go_end0
  exact ⟨rfl, (HR.out.of_bl ((Bl.refl _).drewN _)).adv HP.out (by rw [← HK.out]; omega), gb_set (gb_drewN (gb_refl _ _) _) _ _⟩
/-- Where nextOf finds, by what is left. -/
theorem nxI_none {s p : List UInt8} {k : Nat} (h : cutS p (s.drop k) = none) : nxI s p k = -1 := by unfold nxI; rw [h]
theorem nxI_some {s p u : List UInt8} {k : Nat} (h : cutS p (s.drop k) = some u) : nxI s p k = (s.length : Int) - u.length - p.length := by unfold nxI; rw [h]
set_option maxHeartbeats 1000000 in
theorem skipR_no (p : List UInt8) (hp : p ≠ []) (hp2 : p.length ≤ 1000) (b : Nat) (s t : List UInt8) (w : World) (hR : Yr w b s t 0) (hs : s.length ≤ 4294967280) (hc : toS p t = none) :
    Calls Tryz.prog 48 #[.pointer (some ⟨b, 0, none⟩), .string ⟨p.toArray⟩] w fun e w' => e = .returned (.string ⟨([] : List UInt8).toArray⟩) ∧ Yr w' b s t 1 ∧ w.grownBy w' (some b) := by
  obtain ⟨k, hk⟩ : ∃ k, k = s.length - t.length := ⟨_, rfl⟩
  have hd := sfx_drop hR.sf
  obtain ⟨c0, c1, c2, f0, f1, f2⟩ := hR.at_ hk
  rw [← hk] at hd
  have NC := Lib.hid (fun W => nextOf_c s p k (by omega) hp hp2 (by omega) W)
  have hi := nxI_none (s := s) (k := k) (by rw [hd]; exact toS_none hc)
  rw [hi] at NC
  have HR := Lib.hid hR
  clear hR hd hc hi hk
  go_enter Tryz.func48, Tryz.ntmps48
  go_wp2_with (first | (go_at_call 23; (with_reducible refine (failR_c 1 (by decide) b s t _ (HR.out.of_bl ((Bl.refl _).drewN _))).mono ?_); rintro e w2 ⟨rfl, hR2, hg2⟩) | go_quiet (first | (go_at_call 49; exact quiet_eq (NC.out _))))
  go_ret
  exact ⟨rfl, hR2, gb_trans (gb_drewN (gb_refl _ _) _) hg2⟩
set_option maxHeartbeats 1000000 in
theorem skipR_yes (p : List UInt8) (hp : p ≠ []) (hp2 : p.length ≤ 1000) (b : Nat) (s t v u : List UInt8) (w : World) (hR : Yr w b s t 0) (hs : s.length ≤ 4294967280) (hc : toS p t = some (v, u)) :
    Calls Tryz.prog 48 #[.pointer (some ⟨b, 0, none⟩), .string ⟨p.toArray⟩] w fun e w' => e = .returned (.string ⟨v.toArray⟩) ∧ Yr w' b s u 0 ∧ w.grownBy w' (some b) := by
  have hl := hR.len
  obtain ⟨k, hk⟩ : ∃ k, k = s.length - t.length := ⟨_, rfl⟩
  have hd := sfx_drop hR.sf
  obtain ⟨c0, c1, c2, f0, f1, f2⟩ := hR.at_ hk
  have hRk := hR.rk
  rw [← hk] at hd hRk
  obtain ⟨hc2, hv⟩ := toS_some hc
  rw [← hd] at hc2 hv
  have NC := Lib.hid (fun W => nextOf_c s p k (by omega) hp hp2 (by omega) W)
  obtain ⟨i, hil, hu⟩ : ∃ i : Nat, i + p.length ≤ (s.drop k).length ∧ u = s.drop (k + (i + p.length)) := by
    rcases cutS_index p hp (s.drop k) with ⟨_, h1⟩ | ⟨i, h1, h2, h3⟩
    · rw [hc2] at h1; cases h1
    · rw [hc2, List.drop_drop] at h3; exact ⟨i, h2, Option.some.inj h3⟩
  rw [List.length_drop] at hil
  have hp0 : 0 < p.length := List.length_pos_iff.2 hp
  have hv2 : v = (s.drop k).take i := by
    rw [hv, hu, List.length_drop, List.length_drop]
    congr 1; omega
  have hul : u.length = s.length - (k + (i + p.length)) := by rw [hu, List.length_drop]
  have hib : k + i + p.length ≤ s.length := by omega
  have hi : nxI s p k = ((k + i : Nat) : Int) := by rw [nxI_some hc2]; omega
  rw [hi] at NC
  have HU := Lib.hid (show k + i + p.length = s.length - u.length by omega)
  have HV := Lib.hid hv2
  have HS := Lib.hid (show u <:+ s by rw [hu]; exact List.drop_suffix _ _)
  obtain ⟨m, hm⟩ : ∃ m, m = k + i := ⟨_, rfl⟩
  rw [← hm] at NC HU
  have hmk : (k : Int) ≤ (m : Int) := by omega
  have hms : (m : Int) ≤ (s.length : Int) := by omega
  have hmk' : k ≤ m := by omega
  have hms' : m ≤ s.length := by omega
  have i0 : ¬ (m : Int) < 0 := by omega
  have hsl : m - k = i := by omega
  have HSL := Lib.hid hsl
  have HRk := Lib.hid hRk
  clear hR hRk hd hc hi hu hul hv hv2 hc2 hsl hm hib hil hk hl
  go_enter Tryz.func48, Tryz.ntmps48
  go_wp2_with (go_quiet (first | (go_at_call 49; exact quiet_eq (NC.out _))))
  go_ret
  refine ⟨?_, ⟨(HRk.out.of_bl ((Bl.refl _).drewN _)).seti (by rw [← HU.out]; omega), HS.out⟩, gb_set (gb_drewN (gb_refl _ _) _) _ _⟩
  show Ending.returned (.string ⟨(List.take (m - k) (List.drop k s)).toArray⟩) = _
  rw [HSL.out, HV.out]
set_option maxHeartbeats 1000000 in
theorem blanksR_c (b : Nat) (s t : List UInt8) (n : Int) (w : World) (hR : Yr w b s t n) (hs : s.length ≤ 1099511627776) :
    Calls Tryz.prog 42 #[.pointer (some ⟨b, 0, none⟩)] w fun e w' => e = .returned (.bool (decide ((wsX t).length < t.length))) ∧ Yr w' b s (wsX t) n ∧ w.grownBy w' (some b) := by
  have hd := sfx_drop hR.sf
  have hl := hR.len
  have hrk := hR.rk
  obtain ⟨c0, c1, c2, f0, f1, f2⟩ := hR.rk.cells
  obtain ⟨k, hk'⟩ : ∃ k, k = s.length - t.length := ⟨_, rfl⟩
  rw [← hk'] at hd c1 hrk
  have hwt := ws_tw t
  have HIN := Lib.hid (hd_in blk s k)
  have HOUT := Lib.hid (hd_out blk s k)
  rw [hd] at HIN HOUT
  have HSF := Lib.hid ((List.dropWhile_suffix blk).trans hR.sf : wsX t <:+ s)
  obtain ⟨m, hm⟩ : ∃ m, m = (t.takeWhile blk).length := ⟨_, rfl⟩
  rw [← hm] at HIN HOUT hwt
  have hls : s.length - (wsX t).length = k + m := by omega
  have HLS := Lib.hid hls
  have hkn : k + m ≤ s.length := by omega
  have HD := Lib.hid (show decide ((k : Int) + (m : Int) > (k : Int)) = decide ((wsX t).length < t.length) by rw [Bool.eq_iff_iff]; simp only [decide_eq_true_eq]; omega)
  clear hR hd hk' hm hls hwt hl
  go_enter Tryz.func42, Tryz.ntmps42
  go_wp2
  clear c0 c1 c2 f0 f1 f2
  go_loopw [] (fun wr => ∃ j : Nat, j ≤ m ∧ Yk wr b s (k + j) n ∧ w.grownBy wr (some b)) (fun wr => s.length - atOf b wr)
  case atStart => exact ⟨0, Nat.zero_le _, hrk, gb_refl _ _⟩
  case round =>
    obtain ⟨j, hj, hRr, hg⟩ := hrel
    obtain ⟨c0, c1, c2, f0, f1, f2⟩ := hRr.cells
    by_cases hlt : j < m
    · obtain ⟨h1, h2⟩ := HIN.out j hlt
      have h2' : (k : Int) + (j : Int) < (s.length : Int) := by omega
      have h3' : (0 : Int) ≤ (k : Int) + (j : Int) := by omega
      have h4' : ((k : Int) + (j : Int)).toNat = k + j := by omega
      rw [hd_drop blk s _ h2] at h1
      have WC := Lib.hid (fun m : Nat => isBlank_c s[k + j] (wr.drewN m))
      rw [h1] at WC
      clear h1
      go_wp2_with (go_quiet (first | (go_at_call 66; exact quiet_eq (WC.out _))))
      go_roundw
      case rel => exact ⟨j + 1, by omega, (hRr.of_bl ((Bl.refl _).drewN _)).seti (by omega), gb_set (gb_drewN hg _) _ _⟩
      case measure =>
        have hz : ∀ m, atOf b ((wr.drewN m).setCell ⟨b, 1, none⟩ (.int .i64 ((k : Int) + (j : Int) + 1))) = k + j + 1 := fun m => ((hRr.of_bl ((Bl.refl _).drewN m)).seti (by omega)).at_eq
        rw [hRr.at_eq, hz]; omega
    · obtain rfl : j = m := by omega
      have h1 := HOUT.out
      by_cases h2 : k + j < s.length
      · have h2' : (k : Int) + (j : Int) < (s.length : Int) := by omega
        have h3' : (0 : Int) ≤ (k : Int) + (j : Int) := by omega
        have h4' : ((k : Int) + (j : Int)).toNat = k + j := by omega
        rw [hd_drop blk s _ h2] at h1
        have WC := Lib.hid (fun m : Nat => isBlank_c s[k + j] (wr.drewN m))
        rw [h1] at WC
        clear h1
        go_wp2_with (go_quiet (first | (go_at_call 66; exact quiet_eq (WC.out _))))
        go_ret
        exact ⟨ret_bool (by rw [← HD.out]), ⟨by rw [HLS.out]; exact hRr.of_bl ((Bl.refl _).drewN _), HSF.out⟩, gb_drewN hg _⟩
      · have h2' : decide ((k : Int) + (j : Int) < (s.length : Int)) = false := by simp; omega
        clear h1
        go_wp2_with (go_quiet (fail))
        go_ret
        exact ⟨ret_bool (by rw [← HD.out]), ⟨by rw [HLS.out]; exact hRr.of_bl ((Bl.refl _).drewN _), HSF.out⟩, gb_drewN hg _⟩
end Go.Proofs.YtkacjnifhmgeiaaGreatDoor

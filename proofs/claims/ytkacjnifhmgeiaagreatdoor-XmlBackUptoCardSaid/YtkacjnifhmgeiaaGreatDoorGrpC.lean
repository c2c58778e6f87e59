/- Trees: plain laws: what is built is right; built of its own tokens it is the same; walls; texts. · Signs that are put are taken as they were: plain laws. -/
import Derived.Test.YtkacjnifhmgeiaaGreatDoorGrpB
import Derived.Test.YtkacjnifhmgeiaaGreatDoorGrpA
namespace Go.Proofs.YtkacjnifhmgeiaaGreatDoor
open Go.RowKit

mutual
/-- How deep nodes stand. -/
def dpN : Nd → Nat
  | .mk n _ _ k => if n = [] then 0 else 1 + dpL k
def dpL : List Nd → Nat
  | [] => 0
  | d :: l => max (dpN d) (dpL l)
end
mutual
def cntN : Nd → Nat
  | .mk _ _ _ k => 1 + cntL k
def cntL : List Nd → Nat
  | [] => 0
  | d :: l => cntN d + cntL l
end
theorem dp_of (l : List Nd) : ∀ f, deepL f l ≤ f → dpL l ≤ f := by
  induction l using Nd.ind with
  | h0 => intro f _; simp [dpL]
  | h1 n a x k l ik il =>
    intro f h
    simp only [deepL, dpL, Nat.max_le, deepN, dpN] at h ⊢
    refine ⟨?_, il f h.2⟩
    split
    · omega
    · rename_i hn
      rw [if_neg hn] at h
      cases f with
      | zero => simp at h
      | succ f => have := ik f (by have := h.1; simp only [] at this; omega); omega
theorem deep_le (l : List Nd) : ∀ f, deepL f l ≤ dpL l := by
  induction l using Nd.ind with
  | h0 => intro f; simp [deepL]
  | h1 n a x k l ik il =>
    intro f
    have := il f
    simp only [deepL, dpL, deepN, dpN]
    by_cases hn : n = []
    · simp only [if_pos hn]; omega
    · simp only [if_neg hn]
      cases f with
      | zero => simp only []; omega
      | succ f => have := ik f; simp only []; omega
theorem many_le (l : List Nd) : ∀ f, manyL f l ≤ cntL l := by
  induction l using Nd.ind with
  | h0 => intro f; simp [manyL]
  | h1 n a x k l ik il =>
    intro f
    have := il f
    simp only [manyL, cntL, manyN, cntN]
    by_cases hn : n = []
    · simp only [if_pos hn]; omega
    · simp only [if_neg hn]
      cases f with
      | zero => simp only []; omega
      | succ f => have := ik f; simp only []; omega
/-- The last of nodes is a text. -/
def lastT (o : List Nd) : Bool := match o.getLast? with | some d => decide (d.n = []) | none => false
theorem lastT_snoc (o : List Nd) (d : Nd) : lastT (o ++ [d]) = decide (d.n = []) := by simp [lastT]
theorem pt_no (o : List Nd) (d : Nd) (h : lastT o = false) : pt o d = o ++ [d] := by
  unfold pt
  unfold lastT at h
  split
  · rename_i a x k e
    rw [e] at h; simp [Nd.n] at h
  · rfl
theorem ckL_cons {r : List Nm} {p : Bool} {d : Nd} {l : List Nd} (h : ckL r p (d :: l) = 0) : ckN r p d = 0 ∧ ckL r (decide (d.n = [])) l = 0 := by
  simp only [ckL] at h
  split at h
  · rename_i a; exact absurd h a
  · rename_i a; exact ⟨Decidable.not_not.1 a, h⟩
theorem ckN_mk {r : List Nm} {p : Bool} {n : Nm} {a : List Atr} {x : List UInt8} {k : List Nd} (h : ckN r p (.mk n a x k) = 0) : ndE r (.mk n a x k) = 0 ∧ ¬ (p = true ∧ n = []) ∧ ckL (n :: r) false k = 0 := by
  simp only [ckN] at h
  split at h
  · rename_i a; exact absurd h a
  · rename_i a
    split at h
    · simp at h
    · rename_i b; exact ⟨Decidable.not_not.1 a, b, h⟩
theorem ndE_el {r : List Nm} {n : Nm} {a : List Atr} {x : List UInt8} {k : List Nd} (h : ndE r (.mk n a x k) = 0) (hn : n ≠ []) : x = [] ∧ isNm n = true ∧ (emptyN n = true → k = []) ∧ atE a = 0 ∧ cls r n = r.length := by
  simp only [ndE, if_neg hn] at h
  split at h
  · simp at h
  rename_i h1
  split at h
  · rename_i h2; exact absurd h h2
  rename_i h2
  split at h
  · simp at h
  rename_i h3
  refine ⟨Decidable.not_not.1 (fun e => h1 (.inl e)), ?_, fun e => Decidable.byContradiction fun e2 => h1 (.inr (.inr ⟨e, e2⟩)), Decidable.not_not.1 h2, ?_⟩
  · cases e : isNm n
    · exact absurd (.inr (.inl e)) h1
    · rfl
  · have := cls_le r n; omega
theorem ndE_tx {r : List Nm} {a : List Atr} {x : List UInt8} {k : List Nd} (h : ndE r (.mk [] a x k) = 0) : x ≠ [] ∧ a = [] ∧ k = [] := by
  simp only [ndE, if_true] at h
  split at h
  · simp at h
  rename_i h1
  exact ⟨fun e => h1 (.inl e), Decidable.byContradiction fun e => h1 (.inr (.inl e)), Decidable.byContradiction fun e => h1 (.inr (.inr e))⟩
theorem abv_self (n : Nm) (r : List Nm) (stop : Nm → Bool) : abv n stop (n :: r) = some r.length := by simp [abv]
theorem flt_run (l : List Nd) : ∀ (r : List Nm) (p : Bool) (out : List Nd) (s : St), ckL r p l = 0 → nms s = r → r.length + dpL l ≤ 8 → lastT out = p →
    (fltL l).foldl stp (setK s out) = setK s (out ++ l) := by
  induction l using Nd.ind with
  | h0 => intro r p out s _ _ _ _; simp [fltL]
  | h1 n a x k l ik il =>
    intro r p out s hc hs hd hp
    obtain ⟨h1, h2⟩ := ckL_cons hc
    obtain ⟨h3, h4, h5⟩ := ckN_mk h1
    simp only [dpL, dpN] at hd
    simp only [fltL, fltN, List.foldl_append]
    have hsl : s.2.length = r.length := by rw [← nms_len, hs]
    have rest := il r (decide (n = [])) (out ++ [.mk n a x k]) s h2 hs (by omega) (by rw [lastT_snoc]; rfl)
    rw [show out ++ .mk n a x k :: l = out ++ [.mk n a x k] ++ l by simp, ← rest]
    congr 1
    by_cases hn : n = []
    · subst hn
      obtain ⟨g1, rfl, rfl⟩ := ndE_tx h3
      rw [if_pos rfl]
      simp only [List.foldl_cons, List.foldl_nil]
      unfold stp
      rw [if_pos rfl, put_setK, pt_no]
      rw [hp]
      cases p
      · rfl
      · exact absurd ⟨rfl, rfl⟩ h4
    · obtain ⟨rfl, g2, g3, g4, g5⟩ := ndE_el h3 hn
      rw [if_neg hn, List.foldl_cons]
      rw [if_neg hn] at hd
      have e1 : stp (setK s out) (2, n, a, []) = opn (setK s out) n a := by
        unfold stp
        rw [if_neg (show ¬ (2 : Int) = 1 by decide), if_pos rfl, setK_nms, hs]
        simp only [g5, setK_len, hsl, Nat.sub_self, pops_zero]
      rw [e1]
      unfold opn
      rw [if_neg (by rw [setK_len, hsl]; omega)]
      by_cases he : emptyN n = true
      · rw [if_pos he, if_pos he, g3 he]
        simp only [List.foldl_nil]
        rw [put_setK, pt_el _ _ (by exact hn)]
      · rw [if_neg he, if_neg he, List.foldl_append]
        have hnm : nms ((setK s out).1, (n, a, []) :: (setK s out).2) = n :: r := by
          have := setK_nms s out
          rw [hs] at this
          simp only [nms, List.map_cons] at this ⊢
          rw [this]
        have := ik (n :: r) false [] ((setK s out).1, (n, a, []) :: (setK s out).2) h5 hnm (by simp; omega) rfl
        rw [show ((setK s out).1, (n, a, []) :: (setK s out).2) = setK ((setK s out).1, (n, a, []) :: (setK s out).2) [] from rfl, this]
        simp only [List.foldl_cons, List.foldl_nil, List.nil_append]
        unfold stp
        rw [if_neg (show ¬ (3 : Int) = 1 by decide), if_neg (show ¬ (3 : Int) = 2 by decide), if_pos rfl, setK_nms, hnm]
        simp only [abv_self, setK_len, List.length_cons, hsl]
        rw [show r.length + 1 - r.length = 0 + 1 by omega, pops_succ, pops_zero]
        show put ((setK s out).1, (setK s out).2) _ = _
        rw [show ((setK s out).1, (setK s out).2) = setK s out from rfl, put_setK, pt_el _ _ (by exact hn)]
theorem ckT_zero {l : List Nd} (h : ckT l = 0) : manyL 8 l ≤ 3000 ∧ dpL l ≤ 8 ∧ ckL [] false l = 0 := by
  unfold ckT at h
  split at h
  · simp at h
  · rename_i h1; exact ⟨by omega, dp_of l 8 (by omega), h⟩
/-- Built of its own tokens a tree is the same. -/
theorem ofM_flt (l : List Nd) (h : ckT l = 0) : ofM (fltL l) = l := by
  obtain ⟨h1, h2, h3⟩ := ckT_zero h
  have := flt_run l [] false [] ([], []) h3 rfl (by simpa using h2) rfl
  unfold ofM
  rw [show (([], []) : St) = setK ([], []) [] from rfl, this]
  rfl
theorem tkE_tx {x : List UInt8} (h : x ≠ []) : tkE (1, [], [], x) = 0 := by simp [tkE, h]
theorem tkE_op {n : Nm} {a : List Atr} (h : isNm n = true) (ha : atE a = 0) : tkE (2, n, a, []) = 0 := by simp [tkE, h, ha]
theorem tkE_cl {n : Nm} (h : isNm n = true) : tkE (3, n, [], []) = 0 := by simp [tkE, h, atE, atEF]
theorem flt_ck (l : List Nd) : ∀ (r : List Nm) (p : Bool) (k : Int) (rest : List Tok), ckL r p l = 0 → (k = 1 → p = true) → (∀ j, tkEF j rest = 0) → tkEF k (fltL l ++ rest) = 0 := by
  induction l using Nd.ind with
  | h0 => intro r p k rest _ _ h; simp [fltL, h]
  | h1 n a x kk l ik il =>
    intro r p k rest hc hp hr
    obtain ⟨h1, h2⟩ := ckL_cons hc
    obtain ⟨h3, h4, h5⟩ := ckN_mk h1
    simp only [fltL, fltN, List.append_assoc]
    by_cases hn : n = []
    · subst hn
      obtain ⟨g1, rfl, rfl⟩ := ndE_tx h3
      have := il r _ 1 rest h2 (fun _ => by simp [Nd.n]) hr
      simp only [if_true, List.cons_append, List.nil_append, tkEF, tkE_tx g1]
      rw [if_neg (by simp), if_neg, this]
      rintro ⟨-, e⟩; exact h4 ⟨hp e, rfl⟩
    · obtain ⟨rfl, g2, g3, g4, g5⟩ := ndE_el h3 hn
      have hlast : ∀ j : Int, j ≠ 1 → tkEF j (fltL l ++ rest) = 0 := fun j hj => il r _ j rest h2 (fun e => absurd e hj) hr
      rw [if_neg hn]
      simp only [List.cons_append, tkEF, tkE_op g2 g4]
      rw [if_neg (by simp), if_neg (by simp)]
      by_cases he : emptyN n = true
      · rw [if_pos he]; exact hlast 2 (by decide)
      · rw [if_neg he, List.append_assoc]
        refine ik (n :: r) false 2 _ h5 (fun e => by simp at e) (fun j => ?_)
        simp only [List.cons_append, List.nil_append, tkEF, tkE_cl g2]
        rw [if_neg (by simp), if_neg (by simp)]
        exact hlast 3 (by decide)
/-- The tokens of a tree that is right are right. -/
theorem ckE_flt (l : List Nd) (h : ckT l = 0) (hl : (fltL l).length ≤ 3000) : ckE (fltL l) = 0 := by
  obtain ⟨h1, h2, h3⟩ := ckT_zero h
  unfold ckE
  rw [if_neg (by omega)]
  have := flt_ck l [] false 0 [] h3 (fun e => by simp at e) (fun j => rfl)
  simpa using this

/-- What a builder holds is right. -/
def IvF (m : Nat) : List (Nm × List Atr × List Nd) → Prop
  | [] => True
  | (n, a, k) :: f => n ≠ [] ∧ isNm n = true ∧ emptyN n = false ∧ atE a = 0 ∧ cls (f.map (·.1)) n = f.length ∧ ckL (n :: f.map (·.1)) false k = 0 ∧ f.length + 1 + dpL k ≤ 8 ∧ IvF m f
def Iv (s : St) : Prop := IvF 0 s.2 ∧ ckL [] false s.1 = 0 ∧ dpL s.1 ≤ 8
theorem ckL_app (r : List Nm) : ∀ (l : List Nd) (p : Bool) (m : List Nd), ckL r p l = 0 → ckL r (if l = [] then p else lastT l) m = 0 → ckL r p (l ++ m) = 0 := by
  intro l
  induction l with
  | nil => intro p m _ h; simpa using h
  | cons d l ih =>
    intro p m h hm
    obtain ⟨h1, h2⟩ := ckL_cons h
    simp only [List.cons_append, ckL]
    rw [if_neg (by simp [h1])]
    refine ih _ m h2 ?_
    rw [if_neg (by simp)] at hm
    split
    · rename_i e; subst e; simpa [lastT] using hm
    · rename_i e
      have : lastT (d :: l) = lastT l := by unfold lastT; rw [List.getLast?_cons]; cases e2 : l.getLast? with
        | none => simp at e2; exact absurd e2 e
        | some v => simp
      rw [← this]; exact hm
theorem ckL_init (r : List Nm) : ∀ (l : List Nd) (p : Bool) (d : Nd), ckL r p (l ++ [d]) = 0 → ckL r p l = 0 ∧ ckN r (if l = [] then p else lastT l) d = 0 := by
  intro l
  induction l with
  | nil => intro p d h; exact ⟨rfl, (ckL_cons h).1⟩
  | cons c l ih =>
    intro p d h
    obtain ⟨h1, h2⟩ := ckL_cons (l := l ++ [d]) h
    obtain ⟨g1, g2⟩ := ih _ d h2
    refine ⟨?_, ?_⟩
    · simp only [ckL]; rw [if_neg (by simp [h1])]; exact g1
    · rw [if_neg (by simp)]
      split at g2
      · rename_i e; subst e; simpa [lastT] using g2
      · rename_i e
        have : lastT (c :: l) = lastT l := by unfold lastT; rw [List.getLast?_cons]; cases e2 : l.getLast? with
          | none => simp at e2; exact absurd e2 e
          | some v => simp
        rw [this]; exact g2
theorem ckN_any {r : List Nm} {p q : Bool} {d : Nd} (h : ckN r p d = 0) (hq : q = true → d.n ≠ []) : ckN r q d = 0 := by
  cases d with
  | mk n a x k =>
    obtain ⟨h1, h2, h3⟩ := ckN_mk h
    simp only [ckN]
    rw [if_neg (by simp [h1]), if_neg (by rintro ⟨a, b⟩; exact hq a b), h3]
theorem pt_ck (r : List Nm) (l : List Nd) (d : Nd) (h : ckL r false l = 0) (hd : ckN r false d = 0) : ckL r false (pt l d) = 0 := by
  by_cases hT : lastT l = true ∧ d.n = []
  · obtain ⟨hT, hn⟩ := hT
    rcases List.eq_nil_or_concat l with rfl | ⟨o, c, rfl⟩
    · simp [lastT] at hT
    · rw [List.concat_eq_append] at *
      rw [lastT_snoc] at hT
      cases c with
      | mk n a x k =>
        obtain rfl : n = [] := of_decide_eq_true hT
        obtain ⟨g1, g2⟩ := ckL_init r o false _ h
        obtain ⟨g3, g4, g5⟩ := ckN_mk g2
        obtain ⟨g6, rfl, rfl⟩ := ndE_tx g3
        have e : pt (o ++ [.mk [] [] x []]) d = o ++ [.mk [] [] (x ++ d.x) []] := by
          unfold pt; simp [hn]
        rw [e]
        refine ckL_app r o false _ g1 ?_
        simp only [ckL, ckN, ndE]
        have g7 : ¬ (if o = [] then false else lastT o) = true := fun e => g4 ⟨e, rfl⟩
        simp [g6]
        intro e1 e2
        rw [if_neg e1] at g7
        exact absurd e2 g7
  · have hap : pt l d = l ++ [d] := by
      by_cases hL : lastT l = true
      · exact pt_el l d (fun e => hT ⟨hL, e⟩)
      · exact pt_no l d (by simpa using hL)
    rw [hap]
    refine ckL_app r l false _ h ?_
    have : ckN r (if l = [] then false else lastT l) d = 0 := by
      refine ckN_any hd (fun e => ?_)
      split at e
      · simp at e
      · exact fun e2 => hT ⟨e, e2⟩
    simp only [ckL]
    rw [if_neg (fun e => e this)]
theorem dp_app (l m : List Nd) : dpL (l ++ m) = max (dpL l) (dpL m) := by
  induction l with
  | nil => simp [dpL]
  | cons d l ih => simp only [List.cons_append, dpL, ih]; omega
theorem pt_dp (l : List Nd) (d : Nd) (m : Nat) (h : dpL l ≤ m) (hd : dpN d ≤ m) : dpL (pt l d) ≤ m := by
  unfold pt
  split
  · rename_i a x k e
    split
    · rcases List.eq_nil_or_concat l with rfl | ⟨o, c, rfl⟩
      · simp at e
      · simp only [List.concat_eq_append, List.getLast?_append, List.getLast?_singleton, Option.some_or, Option.some.injEq, List.dropLast_concat] at *
        rw [dp_app] at *
        simp [dpL, dpN] at *; omega
    · rw [dp_app]; simp only [dpL]; omega
  · rw [dp_app]; simp only [dpL]; omega
theorem iv_put {s : St} {d : Nd} (h : Iv s) (hd : ckN (nms s) false d = 0) (hp : s.2.length + dpN d ≤ 8) : Iv (put s d) := by
  obtain ⟨r, f⟩ := s
  cases f with
  | nil => exact ⟨trivial, pt_ck _ _ _ h.2.1 hd, pt_dp _ _ _ h.2.2 (by simpa using hp)⟩
  | cons c f =>
    obtain ⟨n, a, k⟩ := c
    obtain ⟨⟨h1, h2, h3, h4, h5, h6, h7, h8⟩, g⟩ := h
    simp only [List.length_cons] at hp
    refine ⟨⟨h1, h2, h3, h4, h5, pt_ck _ _ _ h6 hd, ?_, h8⟩, g⟩
    have := pt_dp k d (8 - (f.length + 1)) (by omega) (by omega)
    omega
theorem iv_pop {s : St} (h : Iv s) : Iv (pop s) := by
  obtain ⟨r, f⟩ := s
  cases f with
  | nil => exact h
  | cons c f =>
    obtain ⟨n, a, k⟩ := c
    obtain ⟨⟨h1, h2, h3, h4, h5, h6, h7, h8⟩, g⟩ := h
    refine iv_put (s := (r, f)) ⟨h8, g⟩ ?_ ?_
    · show ckN (f.map (·.1)) false _ = 0
      simp only [ckN, ndE, if_neg h1]
      rw [if_neg (show ¬ (([] : List UInt8) ≠ [] ∨ isNm n = false ∨ emptyN n = true ∧ k ≠ []) by simp [h2, h3])]
      simp [h4, h5, h6, h1]
    · simp only [dpN, if_neg h1]; omega
theorem iv_pops (j : Nat) : ∀ {s : St}, Iv s → Iv (pops j s) := by
  induction j with
  | zero => intro s h; exact h
  | succ j ih => intro s h; exact ih (iv_pop h)
theorem iv_good {m : Nat} : ∀ {f : List (Nm × List Atr × List Nd)}, IvF m f → Good (f.map (·.1)) := by
  intro f
  induction f with
  | nil => intro _; trivial
  | cons c f ih =>
    obtain ⟨n, a, k⟩ := c
    intro h
    exact ⟨by simpa using h.2.2.2.2.1, ih h.2.2.2.2.2.2.2⟩
theorem iv_len {m : Nat} {f : List (Nm × List Atr × List Nd)} (h : IvF m f) : f.length ≤ 8 := by
  cases f with
  | nil => simp
  | cons c f => obtain ⟨n, a, k⟩ := c; have := h.2.2.2.2.2.2.1; simp; omega
theorem tkE_zero {t : Tok} (h : tkE t = 0) : TOk t ∧ (t.1 = 1 → t.2.1 = [] ∧ t.2.2.1 = [] ∧ t.2.2.2 ≠ []) ∧ (t.1 ≠ 1 → t.2.2.2 = [] ∧ isNm t.2.1 = true ∧ t.2.1 ≠ [] ∧ atE t.2.2.1 = 0) := by
  unfold tkE at h
  split at h
  · simp at h
  rename_i h1
  split at h
  · simp at h
  rename_i h2
  have e1 : t.1 ≠ 1 → isNm t.2.1 = true ∧ atE t.2.2.1 = 0 := by
    intro e
    rw [if_neg e] at h
    split at h
    · simp at h
    · rename_i h3; exact ⟨by simpa using h3, h⟩
  refine ⟨⟨by omega, fun e => isNm_ne (e1 (by omega)).1⟩, fun e => ⟨?_, ?_, ?_⟩, fun e => ⟨?_, (e1 e).1, isNm_ne (e1 e).1, (e1 e).2⟩⟩
  · exact Decidable.byContradiction fun q => h2 (.inl ⟨e, .inl q⟩)
  · exact Decidable.byContradiction fun q => h2 (.inl ⟨e, .inr (.inl q)⟩)
  · exact fun q => h2 (.inl ⟨e, .inr (.inr q)⟩)
  · exact Decidable.byContradiction fun q => h2 (.inr (.inl ⟨e, q⟩))
theorem iv_stp {s : St} {t : Tok} (h : Iv s) (ht : tkE t = 0) : Iv (stp s t) := by
  obtain ⟨hk, h1, h2⟩ := tkE_zero ht
  unfold stp
  by_cases e1 : t.1 = 1
  · rw [if_pos e1]
    obtain ⟨g1, g2, g3⟩ := h1 e1
    refine iv_put h ?_ ?_
    · simp [ckN, ndE, g3, ckL]
    · simp only [dpN, if_true]; have := iv_len h.1; omega
  rw [if_neg e1]
  obtain ⟨g1, g2, g3, g4⟩ := h2 e1
  by_cases e2 : t.1 = 2
  · rw [if_pos e2]
    have hP := iv_pops (s.2.length - cls (nms s) t.2.1) h
    obtain ⟨S, hS⟩ : ∃ S, S = pops (s.2.length - cls (nms s) t.2.1) s := ⟨_, rfl⟩
    have hcl : cls (nms S) t.2.1 = S.2.length := by
      rw [hS, pops_nms, pops_len, ← nms_len, cls_idem (nms s) _ (iv_good h.1)]
      have := cls_le (nms s) t.2.1; omega
    rw [← hS] at hP ⊢
    unfold opn
    have hl := iv_len hP.1
    split
    · exact hP
    rename_i h8
    split
    · rename_i he
      refine iv_put hP ?_ ?_
      · simp only [ckN, ndE, if_neg g3]
        rw [if_neg (show ¬ (([] : List UInt8) ≠ [] ∨ isNm t.2.1 = false ∨ emptyN t.2.1 = true ∧ ([] : List Nd) ≠ []) by simp [g2])]
        rw [nms_len]
        simp [g4, hcl, ckL]
      · simp only [dpN, if_neg g3, dpL]; omega
    · rename_i he
      refine ⟨⟨g3, g2, by simpa using he, g4, hcl, rfl, by simp only [dpL]; omega, hP.1⟩, hP.2⟩
  rw [if_neg e2]
  split
  · split
    · exact iv_pops _ h
    · exact h
  · exact h
theorem iv_foldl (l : List Tok) : ∀ {s : St}, Iv s → (∀ t ∈ l, tkE t = 0) → Iv (l.foldl stp s) := by
  induction l with
  | nil => intro s h _; exact h
  | cons t l ih => intro s h ht; exact ih (iv_stp h (ht t (by simp))) (fun u hu => ht u (by simp [hu]))
theorem tkEF_each (l : List Tok) : ∀ k, tkEF k l = 0 → ∀ t ∈ l, tkE t = 0 := by
  induction l with
  | nil => intro k _ t ht; simp at ht
  | cons u l ih =>
    intro k h t ht
    simp only [tkEF] at h
    split at h
    · rename_i a; exact absurd h a
    rename_i a
    split at h
    · simp at h
    rcases List.mem_cons.1 ht with rfl | ht
    · exact Decidable.not_not.1 a
    · exact ih _ h t ht
theorem ckE_all {l : List Tok} (h : ckE l = 0) : l.length ≤ 3000 ∧ ∀ t ∈ l, tkE t = 0 := by
  unfold ckE at h
  split at h
  · simp at h
  · exact ⟨by omega, tkEF_each l 0 h⟩
theorem cnt_app (l m : List Nd) : cntL (l ++ m) = cntL l + cntL m := by
  induction l with
  | nil => simp [cntL]
  | cons d l ih => simp only [List.cons_append, cntL, ih]; omega
theorem pt_cnt (l : List Nd) (d : Nd) : cntL (pt l d) ≤ cntL l + cntN d := by
  unfold pt
  split
  · rename_i a x k e
    split
    · rcases List.eq_nil_or_concat l with rfl | ⟨o, c, rfl⟩
      · simp at e
      · simp only [List.concat_eq_append, List.getLast?_append, List.getLast?_singleton, Option.some_or, Option.some.injEq, List.dropLast_concat] at *
        subst e
        rw [cnt_app, cnt_app]
        simp only [cntL, cntN]; omega
    · rw [cnt_app]; simp [cntL]
  · rw [cnt_app]; simp [cntL]
/-- How many nodes a builder holds. -/
def cntF : List (Nm × List Atr × List Nd) → Nat
  | [] => 0
  | (_, _, k) :: f => 1 + cntL k + cntF f
def cntS (s : St) : Nat := cntL s.1 + cntF s.2
theorem put_cnt (s : St) (d : Nd) : cntS (put s d) ≤ cntS s + cntN d := by
  obtain ⟨r, f⟩ := s
  cases f with
  | nil => have := pt_cnt r d; simp only [put, cntS, cntF]; omega
  | cons c f => obtain ⟨n, a, k⟩ := c; have := pt_cnt k d; simp only [put, cntS, cntF]; omega
theorem pop_cnt (s : St) : cntS (pop s) ≤ cntS s := by
  obtain ⟨r, f⟩ := s
  cases f with
  | nil => exact Nat.le_refl _
  | cons c f =>
    obtain ⟨n, a, k⟩ := c
    have := put_cnt (r, f) (.mk n a [] k)
    simp only [pop, cntS, cntF, cntN] at *; omega
theorem pops_cnt (j : Nat) : ∀ s : St, cntS (pops j s) ≤ cntS s := by
  induction j with
  | zero => intro s; exact Nat.le_refl _
  | succ j ih => intro s; exact Nat.le_trans (ih _) (pop_cnt s)
theorem stp_cnt (s : St) (t : Tok) : cntS (stp s t) ≤ cntS s + 1 := by
  unfold stp
  split
  · have := put_cnt s (.mk [] [] t.2.2.2 []); simp only [cntN, cntL] at this; omega
  split
  · have h1 := pops_cnt (s.2.length - cls (nms s) t.2.1) s
    unfold opn
    split
    · omega
    split
    · have h2 := put_cnt (pops (s.2.length - cls (nms s) t.2.1) s) (.mk t.2.1 t.2.2.1 [] []); simp only [cntN, cntL] at h2; omega
    · simp only [cntS, cntF, cntL] at *; omega
  split
  · split
    · rename_i i _; have h1 := pops_cnt (s.2.length - i) s; omega
    · omega
  · omega
theorem foldl_cnt (l : List Tok) : ∀ s : St, cntS (l.foldl stp s) ≤ cntS s + l.length := by
  induction l with
  | nil => intro s; exact Nat.le_refl _
  | cons t l ih => intro s; have := ih (stp s t); have := stp_cnt s t; simp only [List.foldl_cons, List.length_cons]; omega
theorem iv_fin {s : St} (h : Iv s) : ckL [] false (fin s) = 0 ∧ dpL (fin s) ≤ 8 := (iv_pops s.2.length h).2
theorem fin_cnt (s : St) : cntL (fin s) ≤ cntS s := by
  have := pops_cnt s.2.length s
  unfold fin; unfold cntS at *; omega
/-- What is built is right. -/
theorem ckT_ofM (l : List Tok) (h : ckE l = 0) : ckT (ofM l) = 0 := by
  obtain ⟨h1, h2⟩ := ckE_all h
  have hI := iv_fin (iv_foldl l (s := ([], [])) ⟨trivial, rfl, by simp [dpL]⟩ h2)
  have hc := foldl_cnt l ([], [])
  have hf := fin_cnt (l.foldl stp ([], []))
  have hm := many_le (ofM l) 8
  have hd := deep_le (ofM l) 8
  unfold ofM at *
  simp only [cntS, cntL, cntF] at hc hf
  unfold ckT
  rw [if_neg (by omega)]
  exact hI.1
theorem ckE_tok {l : List Tok} (h : ckE l = 0) : ∀ t ∈ l, TOk t := fun t ht => (tkE_zero ((ckE_all h).2 t ht)).1
/-- The innermost of what stands open within no wall is there. -/
theorem ins_no (l : List Nd) : ∀ (r : List Nm) (b : Bool), ckL r b l = 0 → insL (abv sP wallN r).isSome (abv sLi ulolN r).isSome l = false := by
  induction l using Nd.ind with
  | h0 => intro r b _; rfl
  | h1 n a x k l ik il =>
    intro r b hc
    obtain ⟨h1, h2⟩ := ckL_cons hc
    obtain ⟨h3, h4, h5⟩ := ckN_mk h1
    have i1 := il r _ h2
    have i2 := ik (n :: r) false h5
    simp only [insL, insN, i1, Bool.or_false]
    have hp : ∀ (m : Nm) (st : Nm → Bool), (abv m st (n :: r)).isSome = (decide (n = m) || (!st n && (abv m st r).isSome)) := by
      intro m st
      simp only [abv]
      by_cases e : n = m
      · simp [e]
      · rw [if_neg e]
        cases st n <;> simp [e]
    rw [hp, hp] at i2
    by_cases hn : n = []
    · subst hn
      obtain ⟨g1, rfl, rfl⟩ := ndE_tx h3
      simp [insL, sP, sLi]
    · obtain ⟨rfl, g2, g3, g4, g5⟩ := ndE_el h3 hn
      have a1 : n = sP → (abv sP wallN r).isSome = false := by
        rintro rfl; rw [cls_p_none g5]; rfl
      have a2 : n = sLi → (abv sLi ulolN r).isSome = false := by
        rintro rfl
        have e1 := cls1_full g5
        unfold cls at g5
        rw [if_pos rfl, e1, Nat.sub_self, List.drop_zero] at g5
        cases e : abv sLi ulolN r with
        | none => rfl
        | some i => have := abv_lt _ _ _ _ e; rw [e] at g5; simp at g5; omega
      have b1 : (decide (n = sP) && (abv sP wallN r).isSome || decide (n = sLi) && (abv sLi ulolN r).isSome) = false := by
        by_cases c1 : n = sP
        · have c2 : ¬ n = sLi := by rw [c1]; decide
          simp [a1 c1, c2]
        · by_cases c2 : n = sLi
          · simp [a2 c2, c1]
          · simp [c1, c2]
      rw [b1, Bool.false_or]
      have c1 : (decide (n = sP) || (!wallN n && (abv sP wallN r).isSome)) = (!(ulolN n || decide (n = sLi) || decide (n = sBq)) && ((abv sP wallN r).isSome || decide (n = sP))) := by
        have : wallN n = (ulolN n || decide (n = sLi) || decide (n = sBq)) := by simp [wallN, ulolN]
        rw [this]
        by_cases c : n = sP
        · subst c; simp [ulolN, sP, sUl, sOl, sLi, sBq]
        · simp [c]
      have c2 : (decide (n = sLi) || (!ulolN n && (abv sLi ulolN r).isSome)) = (!ulolN n && ((abv sLi ulolN r).isSome || decide (n = sLi))) := by
        by_cases c : n = sLi
        · subst c; simp [ulolN, sUl, sOl, sLi]
        · simp [c]
      rw [c1, c2] at i2
      exact i2
/-- No p in a p, no li in a li. -/
theorem ins_ofM (l : List Tok) (h : ckE l = 0) : insL false false (ofM l) = false := by
  have := ins_no (ofM l) [] false (ckT_zero (ckT_ofM l h)).2.2
  exact this

theorem ntx_app (l m : List Nd) : ntxL (l ++ m) = ntxL l ++ ntxL m := by
  induction l with
  | nil => simp [ntxL]
  | cons d l ih => simp [ntxL, ih]
/-- Texts of nodes have no kids, to any depth. -/
def Lf (l : List Nd) : Prop := ∀ d ∈ l, d.n = [] → d.k = []
theorem ntx_pt (l : List Nd) (d : Nd) (hl : Lf l) (hd : d.n = [] → d.k = []) : ntxL (pt l d) = ntxL l ++ ntxN d ∧ Lf (pt l d) := by
  have happ : ntxL (l ++ [d]) = ntxL l ++ ntxN d ∧ Lf (l ++ [d]) := by
    refine ⟨by simp [ntx_app, ntxL], fun c hc => ?_⟩
    rcases List.mem_append.1 hc with hc | hc
    · exact hl c hc
    · rw [List.mem_singleton] at hc; subst hc; exact hd
  unfold pt
  split
  · rename_i a x k e
    split
    · rename_i hn
      rcases List.eq_nil_or_concat l with rfl | ⟨o, c, rfl⟩
      · simp at e
      · simp only [List.concat_eq_append, List.getLast?_append, List.getLast?_singleton, Option.some_or, Option.some.injEq, List.dropLast_concat] at *
        subst e
        have hk : k = [] := hl (.mk [] a x k) (by simp) rfl
        subst hk
        have h2 := hd hn
        cases d with
        | mk n' a' x' k' =>
          simp only [Nd.k] at h2
          subst h2
          refine ⟨by simp [ntx_app, ntxL, ntxN, Nd.x], fun c hc => ?_⟩
          rcases List.mem_append.1 hc with hc | hc
          · exact hl c (List.mem_append_left _ hc)
          · rw [List.mem_singleton] at hc; subst hc; intro _; rfl
    · exact happ
  · exact happ
def ntxF : List (Nm × List Atr × List Nd) → List UInt8
  | [] => []
  | (_, _, k) :: f => ntxF f ++ ntxL k
def ntxS (s : St) : List UInt8 := ntxL s.1 ++ ntxF s.2
def LfF : List (Nm × List Atr × List Nd) → Prop
  | [] => True
  | (n, _, k) :: f => n ≠ [] ∧ Lf k ∧ LfF f
def LfS (s : St) : Prop := Lf s.1 ∧ LfF s.2
theorem put_txt {s : St} {d : Nd} (h : LfS s) (hd : d.n = [] → d.k = []) : ntxS (put s d) = ntxS s ++ ntxN d ∧ LfS (put s d) := by
  obtain ⟨r, f⟩ := s
  cases f with
  | nil =>
    obtain ⟨e, g⟩ := ntx_pt r d h.1 hd
    exact ⟨by simp [put, ntxS, ntxF, e], g, trivial⟩
  | cons c f =>
    obtain ⟨n, a, k⟩ := c
    obtain ⟨e, g⟩ := ntx_pt k d h.2.2.1 hd
    exact ⟨by simp [put, ntxS, ntxF, e], h.1, h.2.1, g, h.2.2.2⟩
theorem pop_txt {s : St} (h : LfS s) : ntxS (pop s) = ntxS s ∧ LfS (pop s) := by
  obtain ⟨r, f⟩ := s
  cases f with
  | nil => exact ⟨rfl, h⟩
  | cons c f =>
    obtain ⟨n, a, k⟩ := c
    obtain ⟨e, g⟩ := put_txt (s := (r, f)) (d := .mk n a [] k) ⟨h.1, h.2.2.2⟩ (fun e => absurd e h.2.1)
    refine ⟨?_, g⟩
    rw [show pop (r, (n, a, k) :: f) = put (r, f) (.mk n a [] k) from rfl, e]
    simp [ntxS, ntxF, ntxN]
theorem pops_txt (j : Nat) : ∀ {s : St}, LfS s → ntxS (pops j s) = ntxS s ∧ LfS (pops j s) := by
  induction j with
  | zero => intro s h; exact ⟨rfl, h⟩
  | succ j ih =>
    intro s h
    obtain ⟨e1, g1⟩ := pop_txt h
    obtain ⟨e2, g2⟩ := ih g1
    exact ⟨by rw [pops_succ, e2, e1], g2⟩
theorem stp_txt {s : St} {t : Tok} (h : LfS s) (ht : tkE t = 0) : ntxS (stp s t) = ntxS s ++ t.2.2.2 ∧ LfS (stp s t) := by
  obtain ⟨hk, h1, h2⟩ := tkE_zero ht
  unfold stp
  by_cases e1 : t.1 = 1
  · rw [if_pos e1]
    obtain ⟨e, g⟩ := put_txt (d := .mk [] [] t.2.2.2 []) h (fun _ => rfl)
    exact ⟨by rw [e]; simp [ntxN, ntxL], g⟩
  rw [if_neg e1]
  obtain ⟨g1, g2, g3, g4⟩ := h2 e1
  rw [g1, List.append_nil]
  by_cases e2 : t.1 = 2
  · rw [if_pos e2]
    obtain ⟨e, g⟩ := pops_txt (s.2.length - cls (nms s) t.2.1) h
    unfold opn
    split
    · exact ⟨e, g⟩
    split
    · obtain ⟨e', g'⟩ := put_txt (d := .mk t.2.1 t.2.2.1 [] []) g (fun _ => rfl)
      exact ⟨by rw [e', e]; simp [ntxN, ntxL], g'⟩
    · exact ⟨by rw [← e]; simp [ntxS, ntxF, ntxL], g.1, g3, fun c hc => by simp at hc, g.2⟩
  rw [if_neg e2]
  split
  · split
    · exact pops_txt _ h
    · exact ⟨rfl, h⟩
  · exact ⟨rfl, h⟩
theorem foldl_txt (l : List Tok) : ∀ {s : St}, LfS s → (∀ t ∈ l, tkE t = 0) → ntxS (l.foldl stp s) = ntxS s ++ l.flatMap (·.2.2.2) ∧ LfS (l.foldl stp s) := by
  induction l with
  | nil => intro s h _; exact ⟨by simp, h⟩
  | cons t l ih =>
    intro s h ht
    obtain ⟨e1, g1⟩ := stp_txt h (ht t (by simp))
    obtain ⟨e2, g2⟩ := ih g1 (fun u hu => ht u (by simp [hu]))
    exact ⟨by rw [List.foldl_cons, e2, e1]; simp, g2⟩
/-- No text is lost. -/
theorem txt_ofM (l : List Tok) (h : ckE l = 0) : ntxL (ofM l) = l.flatMap (·.2.2.2) := by
  obtain ⟨e, g⟩ := foldl_txt l (s := ([], [])) ⟨fun c hc => by simp at hc, trivial⟩ (ckE_all h).2
  obtain ⟨e2, g2⟩ := pops_txt (l.foldl stp ([], [])).2.length g
  have h0 : (pops (l.foldl stp ([], [])).2.length (l.foldl stp ([], []))).2 = [] := List.eq_nil_of_length_eq_zero (by rw [pops_len]; simp)
  unfold ofM fin
  rw [e] at e2
  unfold ntxS at e2
  rw [h0] at e2
  simpa [ntxF, ntxL] using e2
theorem sameL_iff (l : List Nd) : ∀ m, sameL l m = true ↔ l = m := by
  induction l using Nd.ind with
  | h0 => intro m; cases m <;> simp [sameL]
  | h1 n a x k l ik il =>
    intro m
    cases m with
    | nil => simp [sameL]
    | cons d m =>
      cases d with
      | mk n' a' x' k' =>
        simp only [sameL, sameN, Bool.and_eq_true, decide_eq_true_eq, ik, il, List.cons.injEq, Nd.mk.injEq]
        constructor
        · rintro ⟨⟨⟨⟨h1, h2⟩, h3⟩, h4⟩, h5⟩; exact ⟨⟨h1, h3, h2, h4⟩, h5⟩
        · rintro ⟨⟨h1, h3, h2, h4⟩, h5⟩; exact ⟨⟨⟨⟨h1, h2⟩, h3⟩, h4⟩, h5⟩
theorem sameL_self (l : List Nd) : sameL l l = true := (sameL_iff l l).2 rfl
end Go.Proofs.YtkacjnifhmgeiaaGreatDoor

namespace Go.Proofs.YtkacjnifhmgeiaaGreatDoor
open Go.RowKit

theorem sgn_amp (r : List UInt8) : sgn (38 :: 97 :: 109 :: 112 :: 59 :: r) = ([38], 5, true) := rfl
theorem sgn_lt (r : List UInt8) : sgn (38 :: 108 :: 116 :: 59 :: r) = ([60], 4, true) := rfl
theorem sgn_gt (r : List UInt8) : sgn (38 :: 103 :: 116 :: 59 :: r) = ([62], 4, true) := rfl
theorem sgn_quot (r : List UInt8) : sgn (38 :: 113 :: 117 :: 111 :: 116 :: 59 :: r) = ([34], 6, true) := rfl
theorem putc_38 : putc 38 = [38, 97, 109, 112, 59] := rfl
theorem putc_60 : putc 60 = [38, 108, 116, 59] := rfl
theorem putc_62 : putc 62 = [38, 103, 116, 59] := rfl
theorem putc_34 : putc 34 = [38, 113, 117, 111, 116, 59] := rfl
theorem spc_cases {c : UInt8} (h : spc c = true) : c = 38 ∨ c = 60 ∨ c = 62 ∨ c = 34 := by
  simp only [spc, Bool.or_eq_true, beq_iff_eq] at h
  rcases h with ((h | h) | h) | h <;> simp [h]
theorem Tk_put_app (s r : List UInt8) : Tk (PutL s ++ r) = (s ++ (Tk r).1, (Tk r).2) := by
  induction s with
  | nil => rfl
  | cons c s ih =>
    rw [show PutL (c :: s) = putc c ++ PutL s from rfl, List.append_assoc]
    cases hc : spc c
    · rw [putc_plain hc, List.singleton_append, Tk_plain _ _ (by rintro rfl; exact absurd hc (by decide)), ih]; rfl
    · rcases spc_cases hc with rfl | rfl | rfl | rfl
      · rw [putc_38]; simp only [List.cons_append, List.nil_append]; rw [Tk_amp, sgn_amp]
        simp only [show 5 - 1 = 4 from rfl, List.drop_succ_cons, List.drop_zero, ih, Bool.true_and, List.cons_append, List.nil_append]
      · rw [putc_60]; simp only [List.cons_append, List.nil_append]; rw [Tk_amp, sgn_lt]
        simp only [show 4 - 1 = 3 from rfl, List.drop_succ_cons, List.drop_zero, ih, Bool.true_and, List.cons_append, List.nil_append]
      · rw [putc_62]; simp only [List.cons_append, List.nil_append]; rw [Tk_amp, sgn_gt]
        simp only [show 4 - 1 = 3 from rfl, List.drop_succ_cons, List.drop_zero, ih, Bool.true_and, List.cons_append, List.nil_append]
      · rw [putc_34]; simp only [List.cons_append, List.nil_append]; rw [Tk_amp, sgn_quot]
        simp only [show 6 - 1 = 5 from rfl, List.drop_succ_cons, List.drop_zero, ih, Bool.true_and, List.cons_append, List.nil_append]
theorem Tk_put (s : List UInt8) : Tk (PutL s) = (s, true) := by
  have := Tk_put_app s []
  rw [List.append_nil] at this; rw [this]; simp [Tk_nil]
theorem PutL_no (s : List UInt8) (c : UInt8) (h : c ∈ PutL s) : c ≠ 60 ∧ c ≠ 62 ∧ c ≠ 34 := by
  obtain ⟨x, _, hx⟩ := List.mem_flatMap.1 h
  cases hc : spc x
  · rw [putc_plain hc, List.mem_singleton] at hx
    subst hx
    refine ⟨?_, ?_, ?_⟩ <;> (rintro rfl; exact absurd hc (by decide))
  · rcases spc_cases hc with rfl | rfl | rfl | rfl
    · rw [putc_38] at hx; clear h; revert c; decide
    · rw [putc_60] at hx; clear h; revert c; decide
    · rw [putc_62] at hx; clear h; revert c; decide
    · rw [putc_34] at hx; clear h; revert c; decide
end Go.Proofs.YtkacjnifhmgeiaaGreatDoor

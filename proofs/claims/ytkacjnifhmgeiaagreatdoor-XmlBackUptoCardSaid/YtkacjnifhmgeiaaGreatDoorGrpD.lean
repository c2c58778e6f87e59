/- Documents: plain laws: what is written is read; what is read is right; a text in an element. · Documents: plain functions, a step at a time. -/
import Derived.Test.YtkacjnifhmgeiaaGreatDoorGrpB
import Derived.Test.YtkacjnifhmgeiaaGreatDoorGrpC
namespace Go.Proofs.YtkacjnifhmgeiaaGreatDoor
open Go.RowKit

theorem pre_cons (p t : List UInt8) (c d : UInt8) : pre (c :: p) (d :: t) = (c == d && pre p t) := rfl
theorem pre_nil (t : List UInt8) : pre [] t = true := rfl
theorem pre_app (p t : List UInt8) : pre p (p ++ t) = true := List.isPrefixOf_iff_prefix.2 (List.prefix_append _ _)
theorem pre_off {p t : List UInt8} {c d : UInt8} (h : c ≠ d) : pre (c :: p) (d :: t) = false := by
  rw [pre_cons]; simp [h]
theorem tb1_tb {c : UInt8} (h : tiB1 c = true) : tiB c = true := by simp [tiB, h]
theorem isTi_cons {l : List UInt8} (h : isTi l = true) : ∃ c r, l = c :: r ∧ tiB1 c = true ∧ r.all tiB = true := by
  cases l with
  | nil => simp [isTi] at h
  | cons c r => simp [isTi] at h; exact ⟨c, r, rfl, h.1.1, by simpa using h.1.2⟩
theorem isTi_ne {l : List UInt8} (h : isTi l = true) : l ≠ [] := by rintro rfl; simp [isTi] at h
theorem tws {α : Type} (p : α → Bool) (a : List α) (c : α) (r : List α) (ha : a.all p = true) (hc : p c = false) : (a ++ c :: r).takeWhile p = a ∧ (a ++ c :: r).dropWhile p = c :: r := by
  induction a with
  | nil => simp [hc]
  | cons x a ih => simp only [List.all_cons, Bool.and_eq_true] at ha; obtain ⟨i1, i2⟩ := ih ha.2; simp [ha.1, i1, i2]
theorem tiX_of {n : List UInt8} (h : isTi n = true) (c : UInt8) (hc : tiB c = false) (r : List UInt8) : tiX (n ++ c :: r) = .ok (n, c :: r) := by
  obtain ⟨d, s, rfl, h1, h2⟩ := isTi_cons h
  have : tiS (d :: s ++ c :: r) = (d :: s, c :: r) := by
    obtain ⟨e1, e2⟩ := tws tiB s c r h2 hc
    simp only [List.cons_append, tiS, if_pos h1, e1, e2]
  unfold tiX
  rw [this, if_pos h]
theorem cutS_q (q : UInt8) (a r : List UInt8) (h : q ∉ a) : cutS [q] (a ++ q :: r) = some r := by
  induction a with
  | nil => simp [cutS, pre]
  | cons c a ih =>
    simp only [List.mem_cons, not_or] at h
    rw [List.cons_append, cutS, if_neg (by rw [pre_off h.1]; decide), ih h.2]
theorem toS_one (q : UInt8) (a r : List UInt8) (h : q ∉ a) : toS [q] (a ++ q :: r) = some (a, r) := by
  unfold toS
  rw [cutS_q q a r h]
  simp only [Option.map_some, List.length_append, List.length_cons, List.length_nil]
  rw [show a.length + (r.length + 1) - r.length - (0 + 1) = a.length by omega, List.take_left]
theorem needX_app (p r : List UInt8) : needX p (p ++ r) = .ok r := by
  unfold needX
  rw [if_pos (pre_app p r), List.drop_left]
theorem wsX_no {c : UInt8} (h : blk c = false) (r : List UInt8) : wsX (c :: r) = c :: r := by simp [wsX, h]
theorem put_no (v : List UInt8) : 34 ∉ PutL v ∧ 60 ∉ PutL v := ⟨fun h => (PutL_no v _ h).2.2 rfl, fun h => (PutL_no v _ h).1 rfl⟩
theorem vaX_written (v r : List UInt8) : vaX (61 :: 34 :: (PutL v ++ 34 :: r)) = .ok (v, r) := by
  obtain ⟨h1, h2⟩ := put_no v
  unfold vaX
  rw [wsX_no (by decide), show (61 :: 34 :: (PutL v ++ 34 :: r) : List UInt8) = [61] ++ 34 :: (PutL v ++ 34 :: r) from rfl, needX_app]
  simp only []
  rw [wsX_no (by decide), if_neg (by rw [pre_off (by decide)]; decide), show (34 :: (PutL v ++ 34 :: r) : List UInt8) = [34] ++ (PutL v ++ 34 :: r) from rfl, needX_app]
  simp only []
  rw [toS_one _ _ _ h1]
  simp only []
  rw [if_neg h2, Tk_put]
  rfl
theorem atXF_cons {p : List Atr} {a : Atr} {l : List Atr} (h : atXF p (a :: l) = 0) : isTi a.1 = true ∧ atXF p [a] = 0 ∧ atXF (p ++ [a]) l = 0 := by
  simp only [atXF] at h ⊢
  split at h
  · simp at h
  rename_i h1
  split at h
  · simp at h
  rename_i h2
  refine ⟨by simpa using h1, ?_, h⟩
  rw [if_neg h1, if_neg h2]
theorem atXF_app (l m : List Atr) : ∀ p, atXF p (l ++ m) = 0 ↔ atXF p l = 0 ∧ atXF (p ++ l) m = 0 := by
  induction l with
  | nil => intro p; simp [atXF]
  | cons a l ih =>
    intro p
    simp only [List.cons_append, atXF]
    split
    · simp
    split
    · simp
    · rw [ih]; simp
theorem asF_written (al : List Atr) : ∀ (k : Nat) (out : List Atr) (c : UInt8) (r : List UInt8), al.length ≤ k → atX (out ++ al) = 0 → blk c = false → asF k (atW al ++ c :: r) out = .ok (out ++ al, c :: r) := by
  induction al with
  | nil =>
    intro k out c r _ _ hb
    simp only [atW, List.flatMap_nil, List.nil_append, List.append_nil]
    cases k with
    | zero => rfl
    | succ k => rw [asF, if_neg (by rw [wsX_no hb]; omega), wsX_no hb]
  | cons a al ih =>
    intro k out c r hk ha hb
    obtain ⟨n, v⟩ := a
    obtain ⟨k, rfl⟩ : ∃ j, k = j + 1 := ⟨k - 1, by simp at hk; omega⟩
    unfold atX at ha
    have ha2 := (atXF_app _ _ _).1 ha
    obtain ⟨h1, h2, h3⟩ := atXF_cons ha2.2
    simp only [List.nil_append] at h1 h2 h3
    obtain ⟨d, s, hn, h4, h5⟩ := isTi_cons h1
    have e : atW ((n, v) :: al) ++ c :: r = 32 :: (n ++ 61 :: 34 :: (PutL v ++ 34 :: (atW al ++ c :: r))) := by simp [atW]
    have hd : blk d = false := by
      simp only [tiB1, ltr, lwr, blk, Bool.or_eq_true, Bool.and_eq_true, decide_eq_true_eq, Bool.or_eq_false_iff, decide_eq_false_iff_not] at *
      omega
    have ew : wsX (32 :: (n ++ 61 :: 34 :: (PutL v ++ 34 :: (atW al ++ c :: r)))) = n ++ 61 :: 34 :: (PutL v ++ 34 :: (atW al ++ c :: r)) := by
      have : wsX (32 :: (n ++ 61 :: 34 :: (PutL v ++ 34 :: (atW al ++ c :: r)))) = wsX (n ++ 61 :: 34 :: (PutL v ++ 34 :: (atW al ++ c :: r))) := by simp [wsX, blk]
      rw [this, hn]; exact wsX_no hd _
    rw [e, asF, ew, if_pos ⟨by simp <;> omega, by rw [hn]; simpa using h4⟩, tiX_of h1 _ (by decide)]
    simp only []
    rw [vaX_written]
    simp only []
    have h6 : atX (out ++ [(n, v)]) = 0 := (atXF_app _ _ _).2 ⟨ha2.1, h2⟩
    rw [if_neg (by simp [h6]), ih k _ c r (by simpa using hk) (by simpa [atX] using ha) hb]
    simp
theorem cxL_cons {p : Bool} {d : Nd} {l : List Nd} (h : cxL p (d :: l) = 0) : cxN p d = 0 ∧ cxL (decide (d.n = [])) l = 0 := by
  simp only [cxL] at h
  split at h
  · rename_i a; exact absurd h a
  · rename_i a; exact ⟨Decidable.not_not.1 a, h⟩
theorem cxN_mk {p : Bool} {n : List UInt8} {a : List Atr} {x : List UInt8} {k : List Nd} (h : cxN p (.mk n a x k) = 0) : nxE (.mk n a x k) = 0 ∧ cxL false k = 0 ∧ ¬ (p = true ∧ n = []) := by
  simp only [cxN] at h
  split at h
  · rename_i a; exact absurd h a
  rename_i a
  split at h
  · rename_i b; exact absurd h b
  rename_i b
  split at h
  · simp at h
  · rename_i c; exact ⟨Decidable.not_not.1 a, Decidable.not_not.1 b, c⟩
theorem nxE_el {n : List UInt8} {a : List Atr} {x : List UInt8} {k : List Nd} (h : nxE (.mk n a x k) = 0) (hn : n ≠ []) : x = [] ∧ isTi n = true ∧ atX a = 0 := by
  simp only [nxE, if_neg hn] at h
  split at h
  · simp at h
  rename_i h1
  refine ⟨Decidable.not_not.1 (fun e => h1 (.inl e)), ?_, h⟩
  cases e : isTi n
  · exact absurd (.inr e) h1
  · rfl
theorem nxE_tx {a : List Atr} {x : List UInt8} {k : List Nd} (h : nxE (.mk [] a x k) = 0) : x ≠ [] ∧ a = [] ∧ k = [] := by
  simp only [nxE, if_true] at h
  split at h
  · simp at h
  rename_i h1
  exact ⟨fun e => h1 (.inl e), Decidable.byContradiction fun e => h1 (.inr (.inl e)), Decidable.byContradiction fun e => h1 (.inr (.inr e))⟩
/-- Bytes that begin a title are none of these. -/
theorem tb1_not {c : UInt8} (h : tiB1 c = true) : c ≠ 33 ∧ c ≠ 47 ∧ c ≠ 63 := by
  refine ⟨?_, ?_, ?_⟩ <;> (rintro rfl; revert h; decide)
theorem put_ne {x : List UInt8} (h : x ≠ []) : ∃ c r, PutL x = c :: r ∧ c ≠ 60 := by
  cases x with
  | nil => exact absurd rfl h
  | cons c x =>
    cases e : PutL (c :: x) with
    | nil =>
      simp only [PutL, List.flatMap_cons, List.append_eq_nil_iff] at e
      have := e.1
      unfold putc at this
      (repeat' split at this) <;> simp at this
    | cons d r => exact ⟨d, r, rfl, (PutL_no (c :: x) d (by rw [e]; simp)).1⟩
/-- Written nodes that no text begins, and an end, begin with <. -/
theorem wrL_head (l : List Nd) (r : List UInt8) (h : cxL true l = 0) : ∃ t, wrL l ++ 60 :: 47 :: r = 60 :: t := by
  cases l with
  | nil => exact ⟨_, rfl⟩
  | cons d l =>
    cases d with
    | mk n a x k =>
      obtain ⟨_, _, h1⟩ := cxN_mk (cxL_cons h).1
      have hn : n ≠ [] := fun e => h1 ⟨rfl, e⟩
      simp only [wrL, wrX, if_neg hn, List.cons_append]
      exact ⟨_, rfl⟩
theorem el_read (n : List UInt8) (a : List Atr) (kk : List Nd) (k deep : Nat) (R : List UInt8) (g2 : isTi n = true) (g3 : atX a = 0) (hd : deep ≤ 8) (hK : kk = [] ∨ kiF k deep (wrL kk ++ 60 :: 47 :: (n ++ 62 :: R)) [] = .ok (kk, n ++ 62 :: R)) :
    elF (k + 1) deep (60 :: (n ++ (atW a ++ ((if kk = [] then [47, 62] else 62 :: wrL kk ++ [60, 47] ++ n ++ [62]) ++ R)))) = .ok (.mk n a [] kk, R) := by
  rw [elF, show (60 :: (n ++ (atW a ++ ((if kk = [] then [47, 62] else 62 :: wrL kk ++ [60, 47] ++ n ++ [62]) ++ R))) : List UInt8) = [60] ++ (n ++ (atW a ++ ((if kk = [] then [47, 62] else 62 :: wrL kk ++ [60, 47] ++ n ++ [62]) ++ R))) from rfl, needX_app]
  simp only []
  have hc : ∃ c t, ((if kk = [] then [47, 62] else 62 :: wrL kk ++ [60, 47] ++ n ++ [62]) ++ R) = c :: t ∧ (c = 47 ∨ c = 62) := by
    split
    · exact ⟨_, _, rfl, .inl rfl⟩
    · exact ⟨_, _, rfl, .inr rfl⟩
  obtain ⟨c', t', e4, e5⟩ := hc
  have hw : ∃ c t, atW a ++ c' :: t' = c :: t ∧ tiB c = false := by
    cases a with
    | nil => exact ⟨c', t', rfl, by rcases e5 with rfl | rfl <;> decide⟩
    | cons b a => exact ⟨32, _, by simp only [atW, List.flatMap_cons, List.cons_append]; rfl, by decide⟩
  obtain ⟨c2, t2, e6, e7⟩ := hw
  have hal : a.length ≤ (atW a ++ c' :: t').length := by
    have : ∀ b : List Atr, b.length ≤ (atW b).length := by
      intro b
      induction b with
      | nil => simp
      | cons y b ih => simp only [atW, List.flatMap_cons, List.length_append, List.length_cons] at *; omega
    have := this a
    simp only [List.length_append]; omega
  rw [e4]
  conv => lhs; rw [e6]
  rw [tiX_of g2 _ e7, ← e6]
  simp only []
  rw [if_neg (by omega)]
  unfold atrX
  rw [asF_written a _ [] c' t' hal (by simpa using g3) (by rcases e5 with rfl | rfl <;> decide)]
  simp only [List.nil_append]
  rw [← e4]
  by_cases hk0 : kk = []
  · subst hk0
    simp [pre]
  · rw [if_neg hk0]
    simp only [List.cons_append, List.append_assoc, List.nil_append]
    rw [if_neg (by rw [pre_off (by decide)]; decide), show (62 :: (wrL kk ++ 60 :: 47 :: (n ++ 62 :: R)) : List UInt8) = [62] ++ (wrL kk ++ 60 :: 47 :: (n ++ 62 :: R)) from rfl, needX_app]
    simp only []
    rcases hK with h | hK
    · exact absurd h hk0
    rw [hK]
    simp only []
    rw [tiX_of g2 _ (by decide)]
    simp only []
    rw [if_neg (by simp), wsX_no (by decide), show (62 :: R : List UInt8) = [62] ++ R from rfl, needX_app]
theorem xm_read (l : List Nd) : (∀ (k deep : Nat) (out : List Nd) (r : List UInt8), 1 + 2 * cntL l ≤ k → cxL (lastT out) l = 0 → deep + dpL l ≤ 8 → kiF k deep (wrL l ++ 60 :: 47 :: r) out = .ok (out ++ l, r)) := by
  induction l using Nd.ind with
  | h0 =>
    intro k deep out r hk _ _
    obtain ⟨k, rfl⟩ : ∃ j, k = j + 1 := ⟨k - 1, by omega⟩
    simp [kiF, wrL, pre]
  | h1 n a x kk l ik il =>
    intro k deep out r hk hc hd
    obtain ⟨k, rfl⟩ : ∃ j, k = j + 1 := ⟨k - 1, by omega⟩
    obtain ⟨h1, h2⟩ := cxL_cons hc
    obtain ⟨h3, h4, h5⟩ := cxN_mk h1
    simp only [cntL, cntN, dpL, dpN] at hk hd
    have rest := il k deep (out ++ [.mk n a x kk]) r (by omega) (by rw [lastT_snoc]; exact h2) (by omega)
    simp only [wrL]
    by_cases hn : n = []
    · subst hn
      obtain ⟨g1, rfl, rfl⟩ := nxE_tx h3
      obtain ⟨c, s, e1, e2⟩ := put_ne g1
      obtain ⟨t, e3⟩ := wrL_head l r (by simpa [Nd.n] using h2)
      have e2' := Ne.symm e2
      simp only [wrX, if_true, List.append_assoc]
      rw [e3] at rest ⊢
      obtain ⟨e4, e5⟩ := tws (· != 60) (PutL x) 60 t (by rw [List.all_eq_true]; intro y hy; simpa using (PutL_no x y hy).1) (by decide)
      have hp : ∀ p : List UInt8, pre (60 :: p) (PutL x ++ 60 :: t) = false := fun p => by rw [e1]; exact pre_off e2'
      rw [kiF, if_neg (by rw [hp]; decide), if_neg (by unfold sCd; rw [hp]; decide)]
      have : asX (PutL x ++ 60 :: t) = .ok none := by
        unfold asX sCom sPi
        rw [if_neg (by rw [hp]; decide), if_neg (by rw [hp]; decide)]
      rw [this]
      simp only []
      rw [if_neg (by rw [hp]; decide), e4, e5, Tk_put]
      simp only [addT, if_neg g1]
      rw [pt_no _ _ (by cases e : lastT out; rfl; exact absurd ⟨e, rfl⟩ h5)]
      simpa using rest
    · obtain ⟨rfl, g2, g3⟩ := nxE_el h3 hn
      obtain ⟨c, s, e1, e2, e3⟩ := isTi_cons g2
      obtain ⟨q1, q2, q3⟩ := tb1_not e2
      rw [if_neg hn] at hd
      simp only [wrX, if_neg hn, List.cons_append, List.append_assoc]
      have hp : ∀ (p t : List UInt8) (b : UInt8), b ≠ c → pre (60 :: b :: p) (60 :: (n ++ t)) = false := fun p t b hb => by
        rw [pre_cons, e1, List.cons_append, pre_off hb]; rfl
      rw [kiF, if_neg (by rw [hp _ _ _ (Ne.symm q2)]; decide), if_neg (by unfold sCd; rw [hp _ _ _ (Ne.symm q1)]; decide)]
      have : ∀ t, asX (60 :: (n ++ t)) = .ok none := by
        intro t
        unfold asX sCom sPi
        rw [if_neg (by rw [hp _ _ _ (Ne.symm q1)]; decide), if_neg (by rw [hp _ _ _ (Ne.symm q3)]; decide)]
      rw [this]
      simp only []
      rw [if_pos (by rw [pre_cons]; rfl)]
      obtain ⟨k, rfl⟩ : ∃ j, k = j + 1 := ⟨k - 1, by omega⟩
      have key := el_read n a kk k (deep + 1) (wrL l ++ 60 :: 47 :: r) g2 g3 (by omega) (.inr (ik k (deep + 1) [] _ (by omega) h4 (by omega)))
      simp only [List.cons_append, List.append_assoc] at key
      rw [key]
      simp only []
      simpa using rest
theorem wr_len (l : List Nd) : ∀ p, cxL p l = 0 → cntL l ≤ (wrL l).length := by
  induction l using Nd.ind with
  | h0 => intro p _; simp [cntL]
  | h1 n a x k l ik il =>
    intro p hc
    obtain ⟨h1, h2⟩ := cxL_cons hc
    obtain ⟨h3, h4, h5⟩ := cxN_mk h1
    have i1 := il _ h2
    have i2 := ik _ h4
    simp only [cntL, cntN, wrL, wrX, List.length_append]
    by_cases hn : n = []
    · subst hn
      obtain ⟨g1, rfl, rfl⟩ := nxE_tx h3
      obtain ⟨c, s, e1, e2⟩ := put_ne g1
      simp only [if_true, e1, List.length_cons, cntL]; omega
    · rw [if_neg hn]
      by_cases hk : k = []
      · subst hk; simp [cntL]; omega
      · simp only [if_neg hk, List.length_append, List.length_cons]; omega
theorem miX_no {c : UInt8} {t : List UInt8} (h1 : blk c = false) (h2 : asX (c :: t) = .ok none) : miX (c :: t) = .ok (c :: t) := by
  unfold miX
  rw [List.length_cons, miF, if_neg (by rw [wsX_no h1]; omega), h2]
theorem miX_nil : miX [] = .ok [] := rfl
/-- CheckXml, but for how many nodes there are, and how deep. -/
theorem XmP_written (d : Nd) (hn : d.n ≠ []) (hc : cxN false d = 0) (hd : dpN d ≤ 8) : XmP (wrX d) = .ok d := by
  cases d with
  | mk n a x k =>
    simp only [Nd.n] at hn
    obtain ⟨h3, h4, h5⟩ := cxN_mk hc
    obtain ⟨rfl, g2, g3⟩ := nxE_el h3 hn
    obtain ⟨c, s, e1, e2, e3⟩ := isTi_cons g2
    obtain ⟨q1, q2, q3⟩ := tb1_not e2
    have hT : wrX (.mk n a [] k) = 60 :: (n ++ (atW a ++ (if k = [] then [47, 62] else 62 :: wrL k ++ [60, 47] ++ n ++ [62]))) := by
      simp only [wrX, if_neg hn, List.cons_append, List.append_assoc]
    obtain ⟨B, hB⟩ : ∃ B, B = (atW a ++ (if k = [] then [47, 62] else 62 :: wrL k ++ [60, 47] ++ n ++ [62])) := ⟨_, rfl⟩
    have has : asX (60 :: (n ++ B)) = .ok none := by
      unfold asX sCom sPi
      rw [if_neg (by rw [pre_cons, e1, List.cons_append, pre_off (Ne.symm q1)]; decide), if_neg (by rw [pre_cons, e1, List.cons_append, pre_off (Ne.symm q3)]; decide)]
    have hlen := wr_len k false h4
    unfold XmP
    rw [hT, ← hB, miX_no (by decide) has]
    simp only []
    have hcl : k = [] ∨ cntL k ≤ (n ++ B).length := by
      rw [hB]
      by_cases hk : k = []
      · exact .inl hk
      · right; simp only [if_neg hk, List.length_append, List.length_cons]; omega
    have key := el_read n a k (2 * (60 :: (n ++ B)).length + 1) 1 [] g2 g3 (by omega) (by
      rcases hcl with h | h
      · exact .inl h
      · refine .inr (xm_read k _ 1 [] _ (by simp only [List.length_cons]; omega) h4 (by simp only [dpN, if_neg hn] at hd; omega)))
    rw [List.append_nil, ← hB] at key
    rw [key]
    rfl
theorem cxL_app : ∀ (l : List Nd) (p : Bool) (m : List Nd), cxL p l = 0 → cxL (if l = [] then p else lastT l) m = 0 → cxL p (l ++ m) = 0 := by
  intro l
  induction l with
  | nil => intro p m _ h; simpa using h
  | cons d l ih =>
    intro p m h hm
    obtain ⟨h1, h2⟩ := cxL_cons h
    simp only [List.cons_append, cxL]
    rw [if_neg (by simp [h1])]
    refine ih _ m h2 ?_
    rw [if_neg (by simp)] at hm
    split
    · rename_i e; subst e; simpa [lastT] using hm
    · rename_i e
      have : lastT (d :: l) = lastT l := by unfold lastT; rw [List.getLast?_cons]; cases e2 : l.getLast? with
        | none => simp at e2; exact absurd e2 e
        | some v => simp
      rw [← this]; exact hm
theorem cxL_init : ∀ (l : List Nd) (p : Bool) (d : Nd), cxL p (l ++ [d]) = 0 → cxL p l = 0 ∧ cxN (if l = [] then p else lastT l) d = 0 := by
  intro l
  induction l with
  | nil => intro p d h; exact ⟨rfl, (cxL_cons h).1⟩
  | cons c l ih =>
    intro p d h
    obtain ⟨h1, h2⟩ := cxL_cons (l := l ++ [d]) h
    obtain ⟨g1, g2⟩ := ih _ d h2
    refine ⟨?_, ?_⟩
    · simp only [cxL]; rw [if_neg (by simp [h1])]; exact g1
    · rw [if_neg (by simp)]
      split at g2
      · rename_i e; subst e; simpa [lastT] using g2
      · rename_i e
        have : lastT (c :: l) = lastT l := by unfold lastT; rw [List.getLast?_cons]; cases e2 : l.getLast? with
          | none => simp at e2; exact absurd e2 e
          | some v => simp
        rw [this]; exact g2
theorem cxN_any {p q : Bool} {d : Nd} (h : cxN p d = 0) (hq : q = true → d.n ≠ []) : cxN q d = 0 := by
  cases d with
  | mk n a x k =>
    obtain ⟨h1, h2, h3⟩ := cxN_mk h
    simp only [cxN]
    rw [if_neg (by simp [h1]), if_neg (by simp [h2]), if_neg (by rintro ⟨a, b⟩; exact hq a b)]
theorem pt_cx (l : List Nd) (d : Nd) (h : cxL false l = 0) (hd : cxN false d = 0) : cxL false (pt l d) = 0 := by
  by_cases hT : lastT l = true ∧ d.n = []
  · obtain ⟨hT, hn⟩ := hT
    rcases List.eq_nil_or_concat l with rfl | ⟨o, c, rfl⟩
    · simp [lastT] at hT
    · rw [List.concat_eq_append] at *
      rw [lastT_snoc] at hT
      cases c with
      | mk n a x k =>
        obtain rfl : n = [] := of_decide_eq_true hT
        obtain ⟨g1, g2⟩ := cxL_init o false _ h
        obtain ⟨g3, g4, g5⟩ := cxN_mk g2
        obtain ⟨g6, rfl, rfl⟩ := nxE_tx g3
        have e : pt (o ++ [.mk [] [] x []]) d = o ++ [.mk [] [] (x ++ d.x) []] := by
          unfold pt; simp [hn]
        rw [e]
        refine cxL_app o false _ g1 ?_
        have g7 : cxN (if o = [] then false else lastT o) (.mk [] [] (x ++ d.x) []) = 0 := by
          simp only [cxN, nxE]
          rw [if_neg (by simp [g6]), if_neg (by simp [cxL]), if_neg (fun e => g5 ⟨e.1, rfl⟩)]
        simp only [cxL]
        rw [if_neg (fun e => e g7)]
  · have hap : pt l d = l ++ [d] := by
      by_cases hL : lastT l = true
      · exact pt_el l d (fun e => hT ⟨hL, e⟩)
      · exact pt_no l d (by simpa using hL)
    rw [hap]
    refine cxL_app l false _ h ?_
    have : cxN (if l = [] then false else lastT l) d = 0 := by
      refine cxN_any hd (fun e => ?_)
      split at e
      · simp at e
      · exact fun e2 => hT ⟨e, e2⟩
    simp only [cxL]
    rw [if_neg (fun e => e this)]
theorem addT_cx (l : List Nd) (s : List UInt8) (h : cxL false l = 0) : cxL false (addT l s) = 0 := by
  unfold addT
  split
  · exact h
  · rename_i hs
    exact pt_cx l _ h (by simp [cxN, nxE, hs, cxL])
theorem addT_dp (l : List Nd) (s : List UInt8) (m : Nat) (h : dpL l ≤ m) : dpL (addT l s) ≤ m := by
  unfold addT
  split
  · exact h
  · exact pt_dp l _ m h (by simp [dpN])
theorem addT_cnt (l : List Nd) (s : List UInt8) : cntL (addT l s) ≤ cntL l + 1 := by
  unfold addT
  split
  · omega
  · have := pt_cnt l (.mk [] [] s []); simp only [cntN, cntL] at this; omega
theorem wsX_len (t : List UInt8) : (wsX t).length ≤ t.length := dw_len t
theorem needX_len {p t r : List UInt8} (h : needX p t = .ok r) : r.length + p.length = t.length := by
  unfold needX at h
  split at h
  · rename_i h1
    cases h
    have := (List.isPrefixOf_iff_prefix.1 h1).length_le
    simp; omega
  · cases h
theorem tiS_len (t : List UInt8) : (tiS t).1.length + (tiS t).2.length = t.length := by
  cases t with
  | nil => rfl
  | cons c r =>
    simp only [tiS]
    split
    · have := congrArg List.length (List.takeWhile_append_dropWhile (p := tiB) (l := r))
      simp only [List.length_append, List.length_cons] at *; omega
    · simp
theorem tiX_len {t n r : List UInt8} (h : tiX t = .ok (n, r)) : n.length + r.length = t.length ∧ isTi n = true := by
  unfold tiX at h
  split at h
  · rename_i h1
    simp only [Except.ok.injEq] at h
    have := tiS_len t
    rw [h] at this h1
    exact ⟨this, h1⟩
  · cases h
theorem toS_len {p t v r : List UInt8} (hp : 0 < p.length) (h : toS p t = some (v, r)) : r.length < t.length := by
  unfold toS at h
  cases e : cutS p t with
  | none => rw [e] at h; simp at h
  | some u =>
    rw [e] at h
    simp only [Option.map_some, Option.some.injEq, Prod.mk.injEq] at h
    obtain ⟨-, rfl⟩ := h
    exact cutS_len p hp _ _ e
theorem asX_len {t r : List UInt8} (h : asX t = .ok (some r)) : r.length < t.length := by
  unfold asX at h
  split at h
  · rename_i h1
    cases e : cutS sComE (t.drop 4) with
    | none => rw [e] at h; cases h
    | some u =>
      rw [e] at h
      simp only [Except.ok.injEq, Option.some.injEq] at h
      subst h
      have := cutS_len sComE (by decide) _ _ e
      simp at this; omega
  · split at h
    · cases e : cutS sPiE (t.drop 2) with
      | none => rw [e] at h; cases h
      | some u =>
        rw [e] at h
        simp only [Except.ok.injEq, Option.some.injEq] at h
        subst h
        have := cutS_len sPiE (by decide) _ _ e
        simp at this; omega
    · simp at h
theorem vaX_len {t v r : List UInt8} (h : vaX t = .ok (v, r)) : r.length < t.length := by
  unfold vaX at h
  cases e1 : needX [61] (wsX t) with
  | error e => rw [e1] at h; cases h
  | ok t1 =>
    rw [e1] at h
    simp only [] at h
    have l1 := needX_len e1
    have l2 := wsX_len t
    have l3 := wsX_len t1
    obtain ⟨q, hq⟩ : ∃ q : UInt8, q = if pre [39] (wsX t1) then 39 else 34 := ⟨_, rfl⟩
    rw [← hq] at h
    cases e2 : needX [q] (wsX t1) with
    | error e => rw [e2] at h; cases h
    | ok t2 =>
      rw [e2] at h
      simp only [] at h
      have l4 := needX_len e2
      cases e3 : toS [q] t2 with
      | none => rw [e3] at h; cases h
      | some vr =>
        obtain ⟨v', r'⟩ := vr
        rw [e3] at h
        simp only [] at h
        have l5 := toS_len (by simp) e3
        split at h
        · cases h
        split at h
        · simp only [Except.ok.injEq, Prod.mk.injEq] at h
          obtain ⟨-, rfl⟩ := h
          simp only [List.length_cons, List.length_nil] at *; omega
        · cases h
theorem asF_right (k : Nat) : ∀ (t : List UInt8) (out a : List Atr) (r : List UInt8), asF k t out = .ok (a, r) → atX out = 0 → atX a = 0 ∧ r.length ≤ t.length := by
  induction k with
  | zero => intro t out a r h ha; simp only [asF, Except.ok.injEq, Prod.mk.injEq] at h; obtain ⟨rfl, rfl⟩ := h; exact ⟨ha, Nat.le_refl _⟩
  | succ k ih =>
    intro t out a r h ha
    have l0 := wsX_len t
    unfold asF at h
    split at h
    · cases e1 : tiX (wsX t) with
      | error e => rw [e1] at h; cases h
      | ok nr =>
        obtain ⟨n, t1⟩ := nr
        rw [e1] at h
        simp only [] at h
        have l1 := (tiX_len e1).1
        cases e2 : vaX t1 with
        | error e => rw [e2] at h; cases h
        | ok vr =>
          obtain ⟨v, r'⟩ := vr
          rw [e2] at h
          simp only [] at h
          have l2 := vaX_len e2
          split at h
          · cases h
          · rename_i h2
            obtain ⟨g1, g2⟩ := ih _ _ _ _ h (Decidable.not_not.1 h2)
            exact ⟨g1, by omega⟩
    · simp only [Except.ok.injEq, Prod.mk.injEq] at h; obtain ⟨rfl, rfl⟩ := h; exact ⟨ha, l0⟩
theorem xm_right (k : Nat) : (∀ (deep : Nat) (t : List UInt8) (d : Nd) (r : List UInt8), elF k deep t = .ok (d, r) → d.n ≠ [] ∧ cxN false d = 0 ∧ deep + dpN d ≤ 9 ∧ r.length + cntN d ≤ t.length) ∧
    (∀ (deep : Nat) (t : List UInt8) (out l : List Nd) (r : List UInt8), kiF k deep t out = .ok (l, r) → cxL false out = 0 → deep + dpL out ≤ 8 → cxL false l = 0 ∧ deep + dpL l ≤ 8 ∧ r.length + cntL l ≤ t.length + cntL out) := by
  induction k with
  | zero => exact ⟨fun deep t d r h => by simp [elF] at h, fun deep t out l r h => by simp [kiF] at h⟩
  | succ k ih =>
    obtain ⟨ihe, ihk⟩ := ih
    refine ⟨fun deep t d r h => ?_, fun deep t out l r h hc hd => ?_⟩
    · unfold elF at h
      cases e0 : needX [60] t with
      | error e => rw [e0] at h; cases h
      | ok t0 =>
      rw [e0] at h
      simp only [] at h
      have l0 := needX_len e0
      cases e1 : tiX t0 with
      | error e => rw [e1] at h; cases h
      | ok nr =>
      obtain ⟨n, t1⟩ := nr
      rw [e1] at h
      simp only [] at h
      obtain ⟨l1, hn⟩ := tiX_len e1
      have hn0 := isTi_ne hn
      split at h
      · cases h
      rename_i hd
      cases e2 : atrX t1 with
      | error e => rw [e2] at h; cases h
      | ok ar =>
      obtain ⟨a, t2⟩ := ar
      rw [e2] at h
      simp only [] at h
      obtain ⟨ha, l2⟩ := asF_right _ _ _ _ _ e2 rfl
      have mk : ∀ l : List Nd, cxL false l = 0 → cxN false (.mk n a [] l) = 0 := by
        intro l hl
        simp only [cxN, nxE, if_neg hn0]
        rw [if_neg (show ¬ (([] : List UInt8) ≠ [] ∨ isTi n = false) by simp [hn])]
        simp [ha, hl, hn0]
      split at h
      · simp only [Except.ok.injEq, Prod.mk.injEq] at h
        obtain ⟨rfl, rfl⟩ := h
        refine ⟨hn0, mk [] rfl, ?_, ?_⟩
        · simp only [dpN, if_neg hn0, dpL]; omega
        · simp only [cntN, cntL, List.length_drop, List.length_cons, List.length_nil] at *; omega
      cases e3 : needX [62] t2 with
      | error e => rw [e3] at h; cases h
      | ok t3 =>
      rw [e3] at h
      simp only [] at h
      have l3 := needX_len e3
      cases e4 : kiF k deep t3 [] with
      | error e => rw [e4] at h; cases h
      | ok lr =>
      obtain ⟨l, t4⟩ := lr
      rw [e4] at h
      simp only [] at h
      obtain ⟨g1, g2, g3⟩ := ihk _ _ _ _ _ e4 rfl (by simp only [dpL]; omega)
      cases e5 : tiX t4 with
      | error e => rw [e5] at h; cases h
      | ok mr =>
      obtain ⟨m, t5⟩ := mr
      rw [e5] at h
      simp only [] at h
      have l5 := (tiX_len e5).1
      split at h
      · cases h
      cases e6 : needX [62] (wsX t5) with
      | error e => rw [e6] at h; cases h
      | ok t6 =>
      rw [e6] at h
      simp only [Except.ok.injEq, Prod.mk.injEq] at h
      obtain ⟨rfl, rfl⟩ := h
      have l6 := needX_len e6
      have l7 := wsX_len t5
      refine ⟨hn0, mk l g1, ?_, ?_⟩
      · simp only [dpN, if_neg hn0]; omega
      · simp only [cntN, cntL, List.length_cons, List.length_nil] at *; omega
    · unfold kiF at h
      split at h
      · simp only [Except.ok.injEq, Prod.mk.injEq] at h
        obtain ⟨rfl, rfl⟩ := h
        exact ⟨hc, hd, by simp only [List.length_drop]; omega⟩
      split at h
      · cases e1 : toS sCdE (t.drop 9) with
        | none => rw [e1] at h; cases h
        | some vr =>
          obtain ⟨v, r'⟩ := vr
          rw [e1] at h
          simp only [] at h
          have l1 := toS_len (by decide) e1
          obtain ⟨g1, g2, g3⟩ := ihk _ _ _ _ _ h (addT_cx _ _ hc) (by have := addT_dp out v (8 - deep) (by omega); omega)
          have := addT_cnt out v
          simp only [List.length_drop] at l1
          exact ⟨g1, g2, by omega⟩
      cases e1 : asX t with
      | error e => rw [e1] at h; cases h
      | ok o =>
      rw [e1] at h
      cases o with
      | some r' =>
        simp only [] at h
        have l1 := asX_len e1
        obtain ⟨g1, g2, g3⟩ := ihk _ _ _ _ _ h hc hd
        exact ⟨g1, g2, by omega⟩
      | none =>
        simp only [] at h
        split at h
        · cases e2 : elF k (deep + 1) t with
          | error e => rw [e2] at h; cases h
          | ok dr =>
            obtain ⟨d, r'⟩ := dr
            rw [e2] at h
            simp only [] at h
            obtain ⟨f1, f2, f3, f4⟩ := ihe _ _ _ _ e2
            obtain ⟨g1, g2, g3⟩ := ihk _ _ _ _ _ h (by rw [← pt_el _ _ f1]; exact pt_cx _ _ hc f2) (by rw [dp_app]; simp only [dpL]; omega)
            rw [cnt_app] at g3
            simp only [cntL] at g3
            exact ⟨g1, g2, by omega⟩
        · split at h
          · cases h
          rename_i hp hT
          split at h
          · cases h
          · rename_i hne
            have l1 : (t.dropWhile (· != 60)).length ≤ t.length := dw_len t
            have l2 : (Tk (t.takeWhile (· != 60))).1 = [] ∨ (t.dropWhile (· != 60)).length < t.length := by
              cases t with
              | nil => exact absurd rfl hne
              | cons c t =>
                by_cases hc60 : c = 60
                · subst hc60; exact absurd (by rfl) hp
                · right
                  have : (c != 60) = true := by simpa using hc60
                  rw [List.dropWhile_cons, if_pos this]
                  have := dw_len (p := (· != 60)) t
                  simp only [List.length_cons]; omega
            obtain ⟨g1, g2, g3⟩ := ihk _ _ _ _ _ h (addT_cx _ _ hc) (by have := addT_dp out (Tk (t.takeWhile (· != 60))).1 (8 - deep) (by omega); omega)
            refine ⟨g1, g2, ?_⟩
            rcases l2 with e | l2
            · rw [e] at g3; simp only [addT, if_true] at g3; omega
            · have := addT_cnt out (Tk (t.takeWhile (· != 60))).1; omega
theorem miF_len (k : Nat) : ∀ t r : List UInt8, miF k t = .ok r → r.length ≤ t.length := by
  induction k with
  | zero => intro t r h; simp only [miF, Except.ok.injEq] at h; subst h; exact Nat.le_refl _
  | succ k ih =>
    intro t r h
    unfold miF at h
    split at h
    · have := ih _ _ h; omega
    · cases e : asX t with
      | error e' => rw [e] at h; cases h
      | ok o =>
        rw [e] at h
        cases o with
        | none => simp only [Except.ok.injEq] at h; subst h; exact Nat.le_refl _
        | some u => have := ih _ _ h; have := asX_len e; omega
/-- What is read is right. -/
theorem XmP_right (s : List UInt8) (d : Nd) (h : XmP s = .ok d) : d.n ≠ [] ∧ cxN false d = 0 ∧ dpN d ≤ 8 ∧ cntN d ≤ s.length := by
  unfold XmP at h
  cases e0 : miX s with
  | error e => rw [e0] at h; cases h
  | ok t =>
  rw [e0] at h
  simp only [] at h
  cases e1 : elF (2 * t.length + 2) 1 t with
  | error e => rw [e1] at h; cases h
  | ok dr =>
  obtain ⟨d', r⟩ := dr
  rw [e1] at h
  simp only [] at h
  obtain ⟨f1, f2, f3, f4⟩ := (xm_right _).1 _ _ _ _ e1
  have := miF_len _ _ _ e0
  cases e2 : miX r with
  | error e => rw [e2] at h; cases h
  | ok t2 =>
  rw [e2] at h
  simp only [] at h
  split at h
  · cases h; exact ⟨f1, f2, by omega, by omega⟩
  · cases h
/-- A text in an element. -/
theorem XmP_text (s : List UInt8) (hs : s ≠ []) : XmP ([60, 114, 32, 97, 61, 34] ++ PutL s ++ [34, 62] ++ PutL s ++ [60, 47, 114, 62]) = .ok (.mk [114] [([97], s)] [] [.mk [] [] s []]) := by
  have := XmP_written (.mk [114] [([97], s)] [] [.mk [] [] s []]) (by simp [Nd.n]) (by simp [cxN, nxE, cxL, hs, isTi, tiB1, ltr, lwr, atX, atXF]) (by simp [dpN, dpL])
  rw [← this]
  simp [wrX, wrL, atW]
theorem cutS_cd (s r : List UInt8) (h : ∀ i, pre sCdE (s.drop i) = false) : cutS sCdE (s ++ sCdE ++ r) = some r := by
  induction s with
  | nil => simp [cutS, sCdE, pre]
  | cons c s ih =>
    have h0 := h 0
    simp only [List.drop_zero] at h0
    have hp : pre sCdE (c :: (s ++ sCdE ++ r)) = false := by
      cases s with
      | nil => simp [sCdE, pre, List.isPrefixOf]
      | cons c2 s =>
        cases s with
        | nil => simp [sCdE, pre, List.isPrefixOf]
        | cons c3 s => simpa [sCdE, pre, List.isPrefixOf] using h0
    rw [List.cons_append, List.cons_append, cutS, if_neg (by rw [hp]; decide), ih (fun i => by simpa using h (i + 1))]
theorem XmP_cdata (s : List UInt8) (hs : s ≠ []) (h : ∀ i, pre sCdE (s.drop i) = false) : XmP ([60, 114, 62] ++ sCd ++ s ++ sCdE ++ [60, 47, 114, 62]) = .ok (.mk [114] [] [] [.mk [] [] s []]) := by
  obtain ⟨T, hT⟩ : ∃ T, T = sCd ++ s ++ sCdE ++ [60, 47, 114, 62] := ⟨_, rfl⟩
  have e : [60, 114, 62] ++ sCd ++ s ++ sCdE ++ [60, 47, 114, 62] = 60 :: 114 :: 62 :: T := by rw [hT]; simp
  have hk : ∀ k, kiF (k + 2) 1 T [] = .ok ([.mk [] [] s []], [114, 62]) := by
    intro k
    rw [kiF, if_neg (by rw [hT]; unfold sCd; simp only [List.cons_append]; rw [pre_cons, pre_off (by decide)]; decide), if_pos (by rw [hT, List.append_assoc, List.append_assoc]; exact pre_app _ _)]
    have e1 : T.drop 9 = s ++ sCdE ++ [60, 47, 114, 62] := by rw [hT]; simp [sCd]
    have : toS sCdE (T.drop 9) = some (s, [60, 47, 114, 62]) := by
      unfold toS
      rw [e1, cutS_cd s _ h]
      simp [sCdE]
    rw [this]
    simp only [addT, if_neg hs]
    rw [kiF, if_pos (by decide)]
    simp [pt]
  rw [e]
  unfold XmP
  have hm : miX (60 :: 114 :: 62 :: T) = .ok (60 :: 114 :: 62 :: T) := miX_no (by decide) (by unfold asX sCom sPi; rw [if_neg (by rw [pre_cons, pre_off (by decide)]; decide), if_neg (by rw [pre_cons, pre_off (by decide)]; decide)])
  rw [hm]
  simp only []
  have : elF (2 * (60 :: 114 :: 62 :: T).length + 2) 1 (60 :: 114 :: 62 :: T) = .ok (.mk [114] [] [] [.mk [] [] s []], []) := by
    have hti : tiX (114 :: 62 :: T) = .ok ([114], 62 :: T) := tiX_of (n := [114]) (by decide) 62 (by decide) T
    rw [elF, show (60 :: 114 :: 62 :: T : List UInt8) = [60] ++ (114 :: 62 :: T) from rfl, needX_app]
    simp only []
    rw [hti]
    simp only []
    rw [if_neg (by omega)]
    have ha : atrX (62 :: T) = .ok ([], 62 :: T) := by
      unfold atrX
      have := asF_written [] (62 :: T).length [] 62 T (by simp) rfl (by decide)
      simpa [atW] using this
    rw [ha]
    simp only []
    rw [if_neg (by rw [pre_off (by decide)]; decide), show (62 :: T : List UInt8) = [62] ++ T from rfl, needX_app]
    simp only []
    rw [show 2 * ([60] ++ (114 :: ([62] ++ T)) : List UInt8).length + 1 = (2 * T.length + 5) + 2 by simp; omega, hk]
    simp only []
    rw [show ([114, 62] : List UInt8) = [114] ++ 62 :: [] from rfl, tiX_of (by decide) _ (by decide)]
    simp only []
    rw [if_neg (by simp), wsX_no (by decide), show needX [62] (62 :: []) = .ok [] from rfl]
  rw [this]
  rfl
end Go.Proofs.YtkacjnifhmgeiaaGreatDoor

namespace Go.Proofs.YtkacjnifhmgeiaaGreatDoor
open Go.RowKit

theorem miF_eq : ∀ n t, t.length ≤ n → ∀ k j, t.length ≤ k → t.length ≤ j → miF k t = miF j t := by
  intro n
  induction n with
  | zero =>
    intro t ht k j _ _
    obtain rfl := List.eq_nil_of_length_eq_zero (Nat.le_zero.1 ht)
    have h : ∀ k, miF k [] = .ok [] := fun k => by cases k <;> rfl
    rw [h, h]
  | succ n ih =>
    intro t ht k j hk hj
    cases t with
    | nil =>
      have h : ∀ k, miF k [] = .ok [] := fun k => by cases k <;> rfl
      rw [h, h]
    | cons c r =>
      obtain ⟨k, rfl⟩ : ∃ m, k = m + 1 := ⟨k - 1, by simp only [List.length_cons] at hk; omega⟩
      obtain ⟨j, rfl⟩ : ∃ m, j = m + 1 := ⟨j - 1, by simp only [List.length_cons] at hj; omega⟩
      unfold miF
      split
      · exact ih _ (by omega) _ _ (by omega) (by omega)
      · cases e : asX (c :: r) with
        | error e' => rfl
        | ok o =>
          cases o with
          | none => rfl
          | some u => have := asX_len e; exact ih _ (by omega) _ _ (by omega) (by omega)
theorem miX_ws {t : List UInt8} (h : (wsX t).length < t.length) : miX t = miX (wsX t) := by
  obtain ⟨m, hm⟩ : ∃ m, t.length = m + 1 := ⟨t.length - 1, by omega⟩
  unfold miX
  rw [hm]
  conv => lhs; unfold miF
  rw [if_pos h]
  exact miF_eq _ _ (Nat.le_refl _) _ _ (by omega) (Nat.le_refl _)
theorem miX_as {t : List UInt8} (h : ¬ (wsX t).length < t.length) : miX t = match asX t with
    | .error e => .error e
    | .ok none => .ok t
    | .ok (some r) => miX r := by
  cases t with
  | nil => rfl
  | cons c r =>
    unfold miX
    rw [show (c :: r).length = r.length + 1 from rfl]
    conv => lhs; unfold miF
    rw [if_neg h]
    cases e : asX (c :: r) with
    | error e' => rfl
    | ok o =>
      cases o with
      | none => rfl
      | some u => have := asX_len e; exact miF_eq _ _ (Nat.le_refl _) _ _ (by simp only [List.length_cons] at this; omega) (Nat.le_refl _)
theorem wsX_twice (t : List UInt8) : wsX (wsX t) = wsX t := by
  unfold wsX
  induction t with
  | nil => rfl
  | cons c r ih =>
    by_cases h : blk c = true
    · simp [h, ih]
    · simp [h]
/-- White bytes are passed, and it is seen whether there were some. -/
theorem miX_as2 (t : List UInt8) (h : (wsX t).length = t.length) : wsX t = t := by
  have h2 := (List.dropWhile_suffix blk (l := t))
  exact h2.eq_of_length h

theorem asF_eq (j : Nat) (t : List UInt8) (out : List Atr) (h : t.length ≤ j) : asF j t out =
    if (wsX t).length < t.length ∧ ((wsX t).head?.map tiB1).getD false = true then
      match tiX (wsX t) with
      | .error e => .error e
      | .ok (n, t1) => match vaX t1 with
        | .error e => .error e
        | .ok (v, r) => if atX (out ++ [(n, v)]) ≠ 0 then .error 6 else asF (j - 1) r (out ++ [(n, v)])
    else .ok (out, wsX t) := by
  cases j with
  | zero =>
    obtain rfl := List.eq_nil_of_length_eq_zero (Nat.le_zero.1 h)
    rfl
  | succ j => rfl

/-- A byte of a title, at its place. -/
def tiBy (f : Bool) (c : UInt8) : Bool := if f then tiB1 c else tiB c
theorem isTi_pos (l : List UInt8) (hp : ∀ i (h : i < l.length), tiBy (decide (i = 0)) l[i] = true) (hl : l.length ≤ 20) (h0 : l ≠ []) : isTi l = true := by
  cases l with
  | nil => exact absurd rfl h0
  | cons c r =>
    have h1 := hp 0 (by simp)
    simp only [List.getElem_cons_zero, tiBy, decide_true, if_true] at h1
    simp only [isTi, h1, Bool.true_and, Bool.and_eq_true, decide_eq_true_eq, List.all_eq_true]
    refine ⟨fun x hx => ?_, by simpa using hl⟩
    obtain ⟨i, hi, rfl⟩ := List.mem_iff_getElem.1 hx
    have := hp (i + 1) (by simpa using hi)
    simpa [tiBy] using this
theorem isTi_no (l : List UInt8) (i : Nat) (h : i < l.length) (hp : tiBy (decide (i = 0)) l[i] = false) : isTi l = false := by
  cases l with
  | nil => rfl
  | cons c r =>
    cases i with
    | zero => simp only [List.getElem_cons_zero, tiBy, decide_true, if_true] at hp; simp [isTi, hp]
    | succ i =>
      have hi : i < r.length := by simpa using h
      have hp' : tiB r[i] = false := by simpa [tiBy] using hp
      have : r.all tiB = false := by rw [List.all_eq_false]; exact ⟨r[i], List.getElem_mem _, by simpa using hp'⟩
      simp [isTi, this]
theorem isTi_long (l : List UInt8) (h : 20 < l.length ∨ l = []) : isTi l = false := by
  cases l with
  | nil => rfl
  | cons c r =>
    rcases h with h | h
    · simp only [List.length_cons] at h
      have : ¬ r.length ≤ 19 := by omega
      simp [isTi, this]
    · cases h
theorem tiS_cons (c : UInt8) (r : List UInt8) : tiS (c :: r) = if tiB1 c then (c :: r.takeWhile tiB, r.dropWhile tiB) else ([], c :: r) := rfl
theorem tiS_app (t : List UInt8) : (tiS t).1 ++ (tiS t).2 = t := by
  cases t with
  | nil => rfl
  | cons c r =>
    rw [tiS_cons]
    split
    · simp [List.takeWhile_append_dropWhile]
    · rfl
theorem tiS_in (t : List UInt8) (j : Nat) (h : j < (tiS t).1.length) : ∃ h : j < t.length, tiBy (decide (j = 0)) t[j] = true := by
  cases t with
  | nil => simp [tiS] at h
  | cons c r =>
    rw [tiS_cons] at h
    split at h
    · rename_i hc
      cases j with
      | zero => exact ⟨by simp, by simpa [tiBy] using hc⟩
      | succ j =>
        simp only [List.length_cons, Nat.add_lt_add_iff_right] at h
        have h2 : (r.takeWhile tiB).length ≤ r.length := (List.takeWhile_prefix tiB).length_le
        refine ⟨by simp only [List.length_cons]; omega, ?_⟩
        have h3 : (r.takeWhile tiB)[j] = r[j]'(by omega) := by
          have := List.takeWhile_prefix tiB (l := r)
          exact this.getElem h
        have h4 : tiB (r.takeWhile tiB)[j] = true := mem_tw (List.getElem_mem h)
        rw [h3] at h4
        simpa [tiBy] using h4
    · simp at h
theorem tiS_out (t : List UInt8) (h : (tiS t).1.length < t.length) : tiBy (decide ((tiS t).1.length = 0)) t[(tiS t).1.length] = false := by
  cases t with
  | nil => simp at h
  | cons c r =>
    by_cases hc : tiB1 c = true
    · have e : (tiS (c :: r)).1 = c :: r.takeWhile tiB := by rw [tiS_cons, if_pos hc]
      simp only [e] at h ⊢
      simp only [List.length_cons, Nat.add_lt_add_iff_right] at h
      have h5 := List.takeWhile_append_dropWhile (p := tiB) (l := r)
      have h6 : ∃ d u, r.dropWhile tiB = d :: u ∧ tiB d = false := by
        cases hd : r.dropWhile tiB with
        | nil => rw [hd, List.append_nil] at h5; rw [h5] at h; omega
        | cons d u =>
          refine ⟨d, u, rfl, ?_⟩
          have := List.head_dropWhile_not tiB (l := r) (by rw [hd]; simp)
          simpa [hd] using this
      obtain ⟨d, u, hd, hdb⟩ := h6
      have h7 : r[(r.takeWhile tiB).length]'h = d := by
        rw [hd] at h5
        have h8 : (r.takeWhile tiB ++ d :: u)[(r.takeWhile tiB).length]? = some d := by simp
        rw [h5, List.getElem?_eq_getElem h] at h8
        exact Option.some.inj h8
      simp [tiBy, h7, hdb]
    · have e : (tiS (c :: r)).1 = [] := by rw [tiS_cons, if_neg hc]
      simp only [e]
      simpa [tiBy] using hc
end Go.Proofs.YtkacjnifhmgeiaaGreatDoor

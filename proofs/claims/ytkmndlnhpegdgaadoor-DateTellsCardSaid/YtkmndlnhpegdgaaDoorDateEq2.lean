/- Plain laws: the program's reading of a mail's date is the reference's. -/
import Derived.Test.YtkmndlnhpegdgaaDoorDateEq
namespace Go.Proofs.YtkmndlnhpegdgaaDoor
open Go.RowKit

/-- A mail's zone. -/
structure ZnM (z : List UInt8) (g : UInt8) (a b : List UInt8) : Prop where
  eq : z = g :: (a ++ b)
  hg : g = 43 ∨ g = 45
  la : a.length = 2
  lb : b.length = 2
  da : digs a
  db : digs b
theorem ZnM.of {z : List UInt8} (hB : znB z [] = false) (hS : znS z [] = []) : ∃ g a b, ZnM z g a b := by
  simp only [znB, znM, if_true, Bool.or_eq_false_iff] at hB
  obtain ⟨⟨⟨⟨⟨a1, a2⟩, a3⟩, -⟩, a5⟩, a6⟩ := hB
  obtain ⟨g, t, rfl, hg⟩ := sg_false a1
  have e0 : sgS (g :: t) [43, 45] = t := (sg_cons hg).2.1
  simp only [znS, znM, if_true] at hS
  rw [e0] at a2 a5 hS
  obtain ⟨a, u, rfl, la, da, e1, -⟩ := dg_num a2
  rw [e1] at a5 hS
  obtain ⟨b, v, rfl, lb, db, e3, -⟩ := dg_num a5
  rw [e3] at hS
  subst hS
  exact ⟨g, a, b, by simp, (Has_pm g).1 hg, la, lb, da, db⟩
theorem ZnM.val {z : List UInt8} {g : UInt8} {a b : List UInt8} (k : ZnM z g a b) :
    znB z [] = (decide (23 < Num a) || decide (59 < Num b)) ∧ znS z [] = [] ∧ znV z [] = 60 * ZV g.toNat (Num a) (Num b) ∧ MZV z = ZV g.toNat (Num a) (Num b) ∧ MZB z = (decide (Num a ≤ 23) && decide (Num b ≤ 59)) := by
  obtain ⟨p1, p2, p3⟩ := sg_cons (t := a ++ b) ((Has_pm g).2 k.hg)
  obtain ⟨a1, a2, a3⟩ := dg_at 2 a b k.la k.da
  obtain ⟨c1, c2, c3⟩ := dg_at 2 b [] k.lb k.db
  rw [List.append_nil] at c1 c2 c3
  have t1 : List.take 2 (a ++ b) = a := List.take_left' k.la
  have t2 : List.drop 2 (a ++ b) = b := List.drop_left' k.la
  rw [k.eq]
  refine ⟨?_, ?_, ?_, ?_, ?_⟩
  · simp only [znB, znM, if_true, p1, p2, a1, a2, a3, c1, c3, Bool.false_or, Bool.or_false]
  · simp only [znS, znM, if_true, p2, a2, c2]
  · simp only [znV, znG, znM, if_true, p2, p3, a2, a3, c3]
    unfold ZV; split <;> omega
  · simp [MZV, t1, t2]
  · simp [MZB, t1, t2]
theorem ZnM.form {z : List UInt8} : (Form z plusMail = true ∨ Form z minusMail = true) ↔ ∃ g a b, ZnM z g a b := by
  constructor
  · rintro (h | h)
    · obtain ⟨t, rfl, h⟩ := FormL (by decide) (by decide) (show Form z (43 :: (List.replicate 2 100 ++ (List.replicate 2 100 ++ []))) = true from h)
      obtain ⟨a, t, rfl, la, da, h⟩ := FormD 2 h
      obtain ⟨b, t, rfl, lb, db, h⟩ := FormD 2 h
      cases t with
      | nil => exact ⟨43, a, b, by simp, Or.inl rfl, la, lb, da, db⟩
      | cons x t => simp [Form] at h
    · obtain ⟨t, rfl, h⟩ := FormL (by decide) (by decide) (show Form z (45 :: (List.replicate 2 100 ++ (List.replicate 2 100 ++ []))) = true from h)
      obtain ⟨a, t, rfl, la, da, h⟩ := FormD 2 h
      obtain ⟨b, t, rfl, lb, db, h⟩ := FormD 2 h
      cases t with
      | nil => exact ⟨45, a, b, by simp, Or.inr rfl, la, lb, da, db⟩
      | cons x t => simp [Form] at h
  · rintro ⟨g, a, b, k⟩
    have h0 : Form (a ++ b) (List.replicate 2 100 ++ (List.replicate 2 100 ++ [])) = true := by
      rw [FormD' _ _ _ 2 k.la k.da, show b = b ++ [] by simp, FormD' _ _ _ 2 k.lb k.db]; rfl
    rw [k.eq]
    rcases k.hg with rfl | rfl
    · exact Or.inl ((FormL' 43 _ _ (by decide) (by decide)).trans h0)
    · exact Or.inr ((FormL' 45 _ _ (by decide) (by decide)).trans h0)

theorem tkO_of {s : List UInt8} (h : tkO s = true) : ∃ a b c t, s = a :: b :: c :: t ∧ Ltr a.toNat = true ∧ Ltr b.toNat = true ∧ Ltr c.toNat = true := by
  match s with
  | [] => simp [tkO] at h
  | [a] => simp [tkO] at h
  | [a, b] => simp [tkO] at h
  | a :: b :: c :: t =>
    simp [tkO] at h
    exact ⟨a, b, c, t, rfl, h.1, h.2.1, h.2.2⟩

/-- A mail's text up to its clock. -/
structure Msh (l : List UInt8) (k : Nat) (d : List UInt8) (a b c : UInt8) (y s : List UInt8) : Prop where
  eq : l = d ++ 32 :: a :: b :: c :: 32 :: (y ++ 32 :: s)
  ld : d.length = k
  ly : y.length = 4
  dd : digs d
  dy : digs y
  la : Ltr a.toNat = true
  lb : Ltr b.toNat = true
  lc : Ltr c.toNat = true
theorem Msh.val {l : List UInt8} {k : Nat} {d : List UInt8} {a b c : UInt8} {y s : List UInt8} (q : Msh l k d a b c y s) (hk : k ≤ 2) :
    dgN k 0 l = Num d ∧ tkV (mA1 l k) = [a, b, c] ∧ dgN 4 0 (mA2 l k) = Num y ∧ mA3 l k = s ∧ mA4 l k = sgS (ckS s) [32] ∧ mBad l false k = (decide (monIx [a, b, c] = 0) || ckB s || sgB (ckS s) [32]) := by
  obtain ⟨a1, a2, a3⟩ := dg_at k d (32 :: a :: b :: c :: 32 :: (y ++ 32 :: s)) q.ld q.dd
  obtain ⟨b1, b2⟩ := sg_lit 32 (a :: b :: c :: 32 :: (y ++ 32 :: s))
  obtain ⟨c1, c2, c3⟩ := tk3 a b c (32 :: (y ++ 32 :: s)) q.la q.lb q.lc
  obtain ⟨d1, d2⟩ := sg_lit 32 (y ++ 32 :: s)
  obtain ⟨e1, e2, e3⟩ := dg_at 4 y (32 :: s) q.ly q.dy
  obtain ⟨f1, f2⟩ := sg_lit 32 s
  have g1 := Num_4 y q.dy q.ly
  have g2 := Num_2 d q.dd (by rw [q.ld]; exact hk)
  have q1 : decide (9999 < Num y) = false := decide_eq_false (by omega)
  have q2 : decide (99 < Num d) = false := decide_eq_false (by omega)
  rw [q.eq]
  simp only [mBad, mA4, mA3, mA2, mA1, a1, a2, a3, b1, b2, c1, c2, c3, d1, d2, e1, e2, e3, f1, f2, q1, q2, Bool.not_true, Bool.false_or, Bool.or_false, and_self]
theorem Msh.of {l : List UInt8} {k : Nat} (hB : mBad l false k = false) : ∃ d a b c y s, Msh l k d a b c y s ∧ ckB s = false ∧ sgB (ckS s) [32] = false := by
  simp only [mBad, Bool.or_eq_false_iff] at hB
  obtain ⟨⟨⟨⟨⟨⟨⟨⟨⟨⟨⟨-, a1⟩, -⟩, a3⟩, a4⟩, -⟩, a6⟩, a7⟩, -⟩, a9⟩, a10⟩, a11⟩ := hB
  obtain ⟨d, t, rfl, ld, dd, e1, -⟩ := dg_num a1
  simp only [mA4, mA3, mA2, mA1, e1] at *
  obtain ⟨t, rfl, e2⟩ := sgB_lit a3
  simp only [e2] at *
  obtain ⟨a, b, c, u, rfl, la, lb, lc⟩ := tkO_of (by simpa using a4)
  have e3 := (tk3 a b c u la lb lc).2.2
  simp only [e3] at *
  obtain ⟨u, rfl, e4⟩ := sgB_lit a6
  simp only [e4] at *
  obtain ⟨y, v, rfl, ly, dy, e5, -⟩ := dg_num a7
  simp only [e5] at *
  obtain ⟨v, rfl, e6⟩ := sgB_lit a9
  simp only [e6] at *
  exact ⟨d, a, b, c, y, v, ⟨rfl, ld, ly, dd, dy, la, lb, lc⟩, a10, a11⟩
theorem mail_form {l : List UInt8} (k : Nat) (f : List UInt8) (hf : f = List.replicate k 100 ++ 32 :: 97 :: 97 :: 97 :: 32 :: (List.replicate 4 100 ++ 32 :: (List.replicate 2 100 ++ 58 :: (List.replicate 2 100 ++ 58 :: (List.replicate 2 100 ++ [32]))))) (h20 : k + 19 ≤ l.length) :
    Form (l.take (k + 19)) f = true ↔ ∃ d a b c y s h n i z, Msh l k d a b c y s ∧ Clk s h n i (32 :: z) := by
  constructor
  · intro h
    have hl : l = l.take (k + 19) ++ l.drop (k + 19) := (List.take_append_drop _ l).symm
    generalize l.take (k + 19) = x at h hl
    generalize l.drop (k + 19) = z at hl
    subst hl hf
    clear h20
    obtain ⟨d, t, rfl, ld, dd, h⟩ := FormD k h
    obtain ⟨t, rfl, h⟩ := FormL (by decide) (by decide) h
    obtain ⟨a, b, c, t, rfl, la, lb, lc, h⟩ := FormA h
    obtain ⟨t, rfl, h⟩ := FormL (by decide) (by decide) h
    obtain ⟨y, t, rfl, ly, dy, h⟩ := FormD 4 h
    obtain ⟨t, rfl, h⟩ := FormL (by decide) (by decide) h
    obtain ⟨p, t, rfl, lp, dp, h⟩ := FormD 2 h
    obtain ⟨t, rfl, h⟩ := FormL (by decide) (by decide) h
    obtain ⟨n, t, rfl, ln, dn, h⟩ := FormD 2 h
    obtain ⟨t, rfl, h⟩ := FormL (by decide) (by decide) h
    obtain ⟨i, t, rfl, li, di, h⟩ := FormD 2 h
    obtain ⟨t, rfl, h⟩ := FormL (by decide) (by decide) h
    cases t with
    | nil => exact ⟨d, a, b, c, y, p ++ 58 :: (n ++ 58 :: (i ++ 32 :: z)), p, n, i, z, ⟨by simp, ld, ly, dd, dy, la, lb, lc⟩, ⟨rfl, lp, ln, li, dp, dn, di⟩⟩
    | cons x t => simp [Form] at h
  · rintro ⟨d, a, b, c, y, s, h, n, i, z, q, j⟩
    have e : l = (d ++ 32 :: a :: b :: c :: 32 :: (y ++ 32 :: (h ++ 58 :: (n ++ 58 :: (i ++ [32]))))) ++ z := by rw [q.eq, j.eq]; simp
    rw [e, List.take_left' (by simp [q.ld, q.ly, j.lh, j.ln, j.lc]), hf]
    rw [FormD' _ _ _ k q.ld q.dd, FormL' _ _ _ (by decide) (by decide), FormA' _ _ _ _ _ q.la q.lb q.lc, FormL' _ _ _ (by decide) (by decide), FormD' _ _ _ 4 q.ly q.dy, FormL' _ _ _ (by decide) (by decide),
      FormD' _ _ _ 2 j.lh j.dh, FormL' _ _ _ (by decide) (by decide), FormD' _ _ _ 2 j.ln j.dn, FormL' _ _ _ (by decide) (by decide), FormD' _ _ _ 2 j.lc j.dc, FormL' _ _ _ (by decide) (by decide)]
    rfl
theorem mail_take {l : List UInt8} {k : Nat} {d : List UInt8} {a b c : UInt8} {y s h n i z : List UInt8} (q : Msh l k d a b c y s) (j : Clk s h n i (32 :: z)) :
    l.take k = d ∧ (l.drop (k + 1)).take 3 = [a, b, c] ∧ (l.drop (k + 5)).take 4 = y ∧ ((l.drop (k + 10)).take 8).take 2 = h ∧ (((l.drop (k + 10)).take 8).drop 3).take 2 = n ∧ ((l.drop (k + 10)).take 8).drop 6 = i ∧ l.drop (k + 19) = z ∧ l.length = k + 19 + z.length := by
  have e0 : l.drop k = 32 :: a :: b :: c :: 32 :: (y ++ 32 :: s) := by rw [q.eq]; exact List.drop_left' q.ld
  have e1 : l.drop (k + 1) = a :: b :: c :: 32 :: (y ++ 32 :: s) := by rw [← List.drop_drop, e0]; rfl
  have e5 : l.drop (k + 5) = y ++ 32 :: s := by rw [← List.drop_drop, e0]; rfl
  have e10 : l.drop (k + 10) = s := by rw [show l.drop (k + 10) = (l.drop (k + 5)).drop 5 by rw [List.drop_drop], e5, show y ++ 32 :: s = (y ++ [32]) ++ s by simp]; exact List.drop_left' (by simp [q.ly])
  have es : s = (h ++ 58 :: (n ++ 58 :: i)) ++ 32 :: z := by rw [j.eq]; simp
  have e8' : s.take 8 = h ++ 58 :: (n ++ 58 :: i) := by rw [es]; exact List.take_left' (by simp [j.lh, j.ln, j.lc])
  have ez : s.drop 9 = z := by rw [show s.drop 9 = (s.drop 8).drop 1 by rw [List.drop_drop], es, List.drop_left' (by simp [j.lh, j.ln, j.lc])]; rfl
  have e3 : (h ++ 58 :: (n ++ 58 :: i)).drop 3 = n ++ 58 :: i := by rw [show h ++ 58 :: (n ++ 58 :: i) = (h ++ [58]) ++ (n ++ 58 :: i) by simp]; exact List.drop_left' (by simp [j.lh])
  have e6 : (h ++ 58 :: (n ++ 58 :: i)).drop 6 = i := by rw [show (h ++ 58 :: (n ++ 58 :: i)).drop 6 = ((h ++ 58 :: (n ++ 58 :: i)).drop 3).drop 3 by rw [List.drop_drop], e3, show n ++ 58 :: i = (n ++ [58]) ++ i by simp]; exact List.drop_left' (by simp [j.ln])
  refine ⟨?_, ?_, ?_, ?_, ?_, ?_, ?_, ?_⟩
  · rw [q.eq]; exact List.take_left' q.ld
  · rw [e1]; rfl
  · rw [e5]; exact List.take_left' q.ly
  · rw [e10, e8']; exact List.take_left' j.lh
  · rw [e10, e8', e3]; exact List.take_left' j.ln
  · rw [e10, e8', e6]
  · rw [show l.drop (k + 19) = (l.drop (k + 10)).drop 9 by rw [List.drop_drop], e10, ez]
  · rw [q.eq, j.eq]; simp [q.ld, q.ly, j.lh, j.ln, j.lc]; omega

theorem mailq_bad (s : List UInt8) (k : Nat) : MailQ s true k = errForm := by
  unfold MailQ
  split
  · exact td_bad (Or.inl (by simp [mBad]))
  · exact td_bad (Or.inl (by simp [mBad]))
theorem mailq_eq (l : List UInt8) (k : Nat) (hk : k ≤ 2) (f : List UInt8) (hf : f = List.replicate k 100 ++ 32 :: 97 :: 97 :: 97 :: 32 :: (List.replicate 4 100 ++ 32 :: (List.replicate 2 100 ++ 58 :: (List.replicate 2 100 ++ 58 :: (List.replicate 2 100 ++ [32]))))) :
    MailQ l false k = MailS l k f := by
  by_cases hs : ∃ d a b c y s h n i z, Msh l k d a b c y s ∧ Clk s h n i (32 :: z)
  · have hs' := hs
    obtain ⟨d, a, b, c, y, s, h, n, i, z, q, j⟩ := hs
    obtain ⟨v1, v2, v3, v4, v5, v6⟩ := q.val hk
    obtain ⟨c1, c2, c3⟩ := j.val
    obtain ⟨t1, t2, t3, t4, t5, t6, t7, t8⟩ := mail_take q j
    obtain ⟨g1, g2⟩ := sg_lit 32 z
    have b1 := digs2 h j.dh j.lh
    have b2 := digs2 n j.dn j.ln
    have b3 := digs2 i j.dc j.lc
    have h20 : k + 19 ≤ l.length := by omega
    have hF := (mail_form k f hf h20).2 hs'
    unfold MailQ MailS
    rw [v1, v2, v3, v4, v5, v6, c1, c2, c3, g1, g2, Bool.or_false]
    rw [if_neg (by rw [hF]; simp; omega : ¬ (l.length < k + 19 ∨ Form (List.take (k + 19) l) f = false)), t1, t2, t3, t4, t5, t6, t7]
    by_cases hm : monIx [a, b, c] = 0
    · rw [if_pos (Or.inr hm : (MailZ z).2 = false ∨ monIx [a, b, c] = 0), decide_eq_true hm]
      split
      · exact td_bad (Or.inl rfl)
      · exact td_bad (Or.inl rfl)
    rw [decide_eq_false hm, Bool.false_or]
    by_cases hr : 23 < Num h ∨ 59 < Num n ∨ 59 < Num i
    · rw [time_bad hr]
      have e : (decide (23 < Num h) || decide (59 < Num n) || decide (59 < Num i)) = true := by simp only [Bool.or_eq_true, decide_eq_true_eq]; omega
      rw [e]
      split <;> split <;> exact td_bad (Or.inl rfl)
    · have e : (decide (23 < Num h) || decide (59 < Num n) || decide (59 < Num i)) = false := by simp only [Bool.or_eq_false_iff, decide_eq_false_iff_not]; omega
      rw [e]
      by_cases hz : ∃ g a b, ZnM z g a b
      · obtain ⟨g, a', b', r⟩ := hz
        obtain ⟨q1, q2, q3, q4, q5⟩ := r.val
        have hw : MailZ z = (ZV g.toNat (Num a') (Num b'), (decide (Num a' ≤ 23) && decide (Num b' ≤ 59))) := by
          unfold MailZ; rw [if_pos (ZnM.form.2 ⟨g, a', b', r⟩), q4, q5]
        have hn : ¬ (z = [71, 77, 84] ∨ z = [85, 84]) := by rw [r.eq]; rcases r.hg with rfl | rfl <;> simp
        rw [if_neg hn, hw, q1, q2, q3]
        by_cases hb : Num a' ≤ 23 ∧ Num b' ≤ 59
        · have e1 : (decide (23 < Num a') || decide (59 < Num b')) = false := by simp only [Bool.or_eq_false_iff, decide_eq_false_iff_not]; omega
          have e2 : (decide (Num a' ≤ 23) && decide (Num b' ≤ 59)) = true := by simp only [Bool.and_eq_true, decide_eq_true_eq]; omega
          rw [e1, e2, if_neg (by simp [hm])]
          exact td_time (by omega) (by omega) (by omega) rfl rfl
        · have e1 : (decide (23 < Num a') || decide (59 < Num b')) = true := by simp only [Bool.or_eq_true, decide_eq_true_eq]; omega
          have e2 : (decide (Num a' ≤ 23) && decide (Num b' ≤ 59)) = false := by rw [Bool.and_eq_false_iff]; simp only [decide_eq_false_iff_not]; omega
          rw [e1, e2, if_pos (Or.inl rfl)]
          exact td_bad (Or.inl rfl)
      · have hw : MailZ z = (0, z == [71, 77, 84] || z == [85, 84]) := by unfold MailZ; rw [if_neg (fun h => hz (ZnM.form.1 h))]
        rw [hw]
        by_cases h90 : z = [71, 77, 84] ∨ z = [85, 84]
        · rw [if_pos h90, if_neg (by rcases h90 with rfl | rfl <;> simp [hm])]
          exact td_time (by omega) (by omega) (by omega) rfl rfl
        · rw [if_neg h90, if_pos (Or.inl (by simpa using h90))]
          refine td_bad ?_
          by_cases hB : znB z [] = false
          · exact Or.inr (fun hS => hz (ZnM.of hB hS))
          · exact Or.inl (by simpa using hB)
  · have hB : mBad l false k = true := by
      cases hB : mBad l false k
      · obtain ⟨d, a, b, c, y, s, q, hc, hx⟩ := Msh.of hB
        obtain ⟨h, n, i, z, j⟩ := Clk.of hc
        rw [j.val.2.1] at hx
        obtain ⟨z, rfl, -⟩ := sgB_lit hx
        exact absurd ⟨d, a, b, c, y, s, h, n, i, z, q, j⟩ hs
      · rfl
    have hT : MailS l k f = errForm := by
      unfold MailS
      by_cases h20 : l.length < k + 19
      · rw [if_pos (Or.inl h20)]
      · rw [if_pos (Or.inr (by rw [Bool.eq_false_iff]; exact fun hF => hs ((mail_form k f hf (by omega)).1 hF)))]
    unfold MailQ
    rw [hT, hB]
    split
    · exact td_bad (Or.inl rfl)
    · exact td_bad (Or.inl rfl)
theorem MailS_short {l : List UInt8} {k : Nat} {f : List UInt8} (h : l.length < k + 19) : MailS l k f = errForm := by
  unfold MailS; rw [if_pos (Or.inl h)]
theorem mm_eq (m : List UInt8) : MailQ m false (mMany m) = MailM m := by
  match m with
  | [] => rw [show mMany [] = 1 from rfl, mailq_eq [] 1 (by omega) mailForm1 rfl, MailS_short (by simp)]; unfold MailM; rw [show isOne [] = false from rfl, if_neg (by simp), MailS_short (by simp)]
  | [x] => rw [show mMany [x] = 1 from rfl, mailq_eq [x] 1 (by omega) mailForm1 rfl, MailS_short (by simp)]; unfold MailM; rw [show isOne [x] = false from rfl, if_neg (by simp), MailS_short (by simp)]
  | x :: c :: t =>
    have hi : isOne (x :: c :: t) = decide (c = 32) := by
      unfold isOne
      rw [Bool.eq_iff_iff, beq_iff_eq, decide_eq_true_eq]
      exact ⟨fun h => UInt8.toNat_inj.1 (by rw [show (32 : UInt8).toNat = 32 from rfl]; omega), fun h => by rw [h]; rfl⟩
    unfold MailM mMany
    rw [hi]
    by_cases h : c = 32
    · simp only [h, decide_true, if_true]
      exact mailq_eq _ 1 (by omega) mailForm1 rfl
    · simp only [h, decide_false, if_false]
      exact mailq_eq _ 2 (by omega) mailForm2 rfl
theorem MailS_letter {c : UInt8} {t : List UInt8} {k : Nat} {f : List UInt8} (hc : Ltr c.toNat = true) (hk : ∃ g, f = 100 :: g) : MailS (c :: t) k f = errForm := by
  obtain ⟨g, rfl⟩ := hk
  have hd : ¬ (48 ≤ (c.toNat : Int) ∧ (c.toNat : Int) ≤ 57) := by
    intro h
    simp [Ltr] at hc
    omega
  unfold MailS
  rw [if_pos]
  right
  rw [show k + 19 = (k + 18) + 1 from rfl, List.take_succ_cons, Form, Bool.and_eq_false_iff]
  left
  rw [Bool.eq_false_iff]
  exact fun h => hd ((FC_dig _).1 h)
theorem MailM_letter {c : UInt8} {t : List UInt8} (hc : Ltr c.toNat = true) : MailM (c :: t) = errForm := by
  unfold MailM
  split
  · exact MailS_letter hc ⟨_, rfl⟩
  · exact MailS_letter hc ⟨_, rfl⟩
theorem head_form (x : List UInt8) : Form x mailHead = true ↔ ∃ a b c, x = [a, b, c, 44, 32] ∧ Ltr a.toNat = true ∧ Ltr b.toNat = true ∧ Ltr c.toNat = true := by
  constructor
  · intro h
    obtain ⟨a, b, c, t, rfl, la, lb, lc, h1⟩ := FormA h
    obtain ⟨u, rfl, h2⟩ := FormL (by decide) (by decide) h1
    obtain ⟨v, rfl, h3⟩ := FormL (by decide) (by decide) h2
    cases v with
    | nil => exact ⟨a, b, c, rfl, la, lb, lc⟩
    | cons x t => simp [Form] at h3
  · rintro ⟨a, b, c, rfl, la, lb, lc⟩
    unfold mailHead
    rw [FormA' _ _ _ _ _ la lb lc]
    rfl
theorem mail_eq (l : List UInt8) : MailP l = MailT l := by
  match l with
  | [] =>
    unfold MailP MailT
    rw [if_neg (by simp), show (1 : Nat) = mMany [] from rfl]
    exact mm_eq []
  | c :: t =>
    unfold MailP
    simp only []
    by_cases hc : Ltr c.toNat = true
    · rw [if_pos hc]
      by_cases hh : ∃ b d m, t = b :: d :: 44 :: 32 :: m ∧ Ltr b.toNat = true ∧ Ltr d.toNat = true
      · obtain ⟨b, d, m, rfl, lb, ld⟩ := hh
        obtain ⟨t1, t2, t3⟩ := tk3 c b d (44 :: 32 :: m) hc lb ld
        obtain ⟨s1, s2⟩ := sg_lit 44 (32 :: m)
        obtain ⟨s3, s4⟩ := sg_lit 32 m
        rw [t1, t3, s1, s2, s3, s4]
        rw [show (!true || false || false) = false from rfl, mm_eq]
        have hF : Form [c, b, d, 44, 32] mailHead = true := (head_form _).2 ⟨c, b, d, rfl, hc, lb, ld⟩
        unfold MailT
        by_cases hm : m = []
        · subst hm
          rw [if_neg (by simp), MailM_letter hc]
          unfold MailM
          rw [show isOne [] = false from rfl, if_neg (by simp), MailS_short (by simp)]
        · rw [if_pos]
          · rfl
          · have : 0 < m.length := List.length_pos_iff.2 hm
            exact ⟨by simp; omega, hF⟩
      · have hT : MailT (c :: t) = errForm := by
          unfold MailT
          rw [if_neg, MailM_letter hc]
          rintro ⟨hl, hF⟩
          obtain ⟨a, b, d, he, la, lb, ld⟩ := (head_form _).1 hF
          have := List.take_append_drop 5 (c :: t)
          rw [he] at this
          simp only [List.cons_append, List.nil_append, List.cons.injEq] at this
          exact hh ⟨b, d, _, this.2.symm, lb, ld⟩
        rw [hT]
        suffices h : (!tkO (c :: t) || sgB (tkS (c :: t)) [44] || sgB (sgS (tkS (c :: t)) [44]) [32]) = true by rw [h]; exact mailq_bad _ _
        rw [← Bool.not_eq_false]
        intro h
        simp only [Bool.or_eq_false_iff, Bool.not_eq_false'] at h
        obtain ⟨⟨h1, h2⟩, h3⟩ := h
        obtain ⟨a, b, d, u, he, la, lb, ld⟩ := tkO_of h1
        rw [he] at h2 h3
        rw [(tk3 a b d u la lb ld).2.2] at h2 h3
        obtain ⟨u, rfl, e⟩ := sgB_lit h2
        rw [e] at h3
        obtain ⟨u, rfl, -⟩ := sgB_lit h3
        simp only [List.cons.injEq] at he
        exact hh ⟨b, d, u, he.2, lb, ld⟩
    · rw [if_neg hc, mm_eq]
      unfold MailT
      rw [if_neg]
      rintro ⟨hl, hF⟩
      obtain ⟨a, b, d, he, la, lb, ld⟩ := (head_form _).1 hF
      have := List.take_append_drop 5 (c :: t)
      rw [he] at this
      simp only [List.cons_append, List.cons.injEq] at this
      rw [← this.1] at hc
      exact hc la
end Go.Proofs.YtkmndlnhpegdgaaDoor

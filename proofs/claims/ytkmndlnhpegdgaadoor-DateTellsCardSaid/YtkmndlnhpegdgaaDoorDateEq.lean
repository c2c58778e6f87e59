/- Plain laws: the program's reading of a text is the reference's. -/
import Derived.Test.YtkmndlnhpegdgaaDoorDateMailRef
namespace Go.Proofs.YtkmndlnhpegdgaaDoor
open Go.RowKit

theorem Has_one (x c : UInt8) : Has [x] c.toNat = true ↔ c = x := by
  simp only [Has, List.any_cons, List.any_nil, Bool.or_false, beq_iff_eq]
  constructor
  · intro h; exact UInt8.toNat_inj.1 (by omega)
  · intro h; rw [h]
theorem Has_dec (c : UInt8) : Has dec c.toNat = true ↔ 48 ≤ c.toNat ∧ c.toNat ≤ 57 := by
  simp only [Has, dec, List.any_cons, List.any_nil, Bool.or_false, Bool.or_eq_true, beq_iff_eq]
  constructor
  · intro h
    rcases h with h | h | h | h | h | h | h | h | h | h <;> (have := h; simp at this; omega)
  · intro h
    simp
    omega
theorem sg_false {s of : List UInt8} (h : sgB s of = false) : ∃ c t, s = c :: t ∧ Has of c.toNat = true := by
  cases s with
  | nil => simp [sgB] at h
  | cons c t => exact ⟨c, t, rfl, by simpa [sgB] using h⟩
theorem sg_cons {c : UInt8} {t of : List UInt8} (h : Has of c.toNat = true) : sgB (c :: t) of = false ∧ sgS (c :: t) of = t ∧ sgV (c :: t) of = c.toNat := by
  simp [sgB, sgS, sgV, h]
theorem dd_cons {c : UInt8} {t : List UInt8} (h : 48 ≤ c.toNat ∧ c.toNat ≤ 57) : dd (sgV (c :: t) dec) = Dg c.toNat 10 := by
  rw [(sg_cons ((Has_dec c).2 h)).2.2, Dg_dig _ (by omega) (by omega)]; unfold dd; split <;> omega

/-- So many digits are there. -/
theorem dg_false (k : Nat) : ∀ (n : Int) (s : List UInt8), dgB k s = false → ∃ p t, s = p ++ t ∧ p.length = k ∧ digs p ∧ dgS k s = t ∧ dgN k n s = p.foldl (fun n c => 10 * n + Dg c.toNat 10) n := by
  induction k with
  | zero => intro n s _; exact ⟨[], s, rfl, rfl, fun c hc => by simp at hc, rfl, rfl⟩
  | succ k ih =>
    intro n s h
    simp only [dgB, Bool.or_eq_false_iff] at h
    obtain ⟨c, t, rfl, hc⟩ := sg_false h.1
    have hd := (Has_dec c).1 hc
    obtain ⟨_, e2, _⟩ := sg_cons (t := t) hc
    rw [e2] at h
    obtain ⟨p, t', rfl, h1, h2, h3, h4⟩ := ih (10 * n + Dg c.toNat 10) t h.2
    refine ⟨c :: p, t', rfl, by simp [h1], ?_, ?_, ?_⟩
    · intro x hx
      rcases List.mem_cons.1 hx with rfl | hx
      · exact hd
      · exact h2 x hx
    · simp only [dgS, e2, h3]
    · simp only [dgN, e2, dd_cons hd, h4, List.foldl_cons]
theorem dg_true (p : List UInt8) : ∀ (n : Int) (t : List UInt8), digs p → dgB p.length (p ++ t) = false ∧ dgS p.length (p ++ t) = t ∧ dgN p.length n (p ++ t) = p.foldl (fun n c => 10 * n + Dg c.toNat 10) n := by
  induction p with
  | nil => intro n t _; exact ⟨rfl, rfl, rfl⟩
  | cons c p ih =>
    intro n t h
    have hd := h c (by simp)
    obtain ⟨e1, e2, _⟩ := sg_cons (t := p ++ t) ((Has_dec c).2 hd)
    obtain ⟨i1, i2, i3⟩ := ih (10 * n + Dg c.toNat 10) t (fun x hx => h x (by simp [hx]))
    simp only [List.length_cons, List.cons_append, dgB, dgS, dgN, e1, e2, dd_cons hd, i1, i2, i3, Bool.or_false, List.foldl_cons, and_self]
theorem dg_num {k : Nat} {s : List UInt8} (h : dgB k s = false) : ∃ p t, s = p ++ t ∧ p.length = k ∧ digs p ∧ dgS k s = t ∧ dgN k 0 s = Num p := dg_false k 0 s h
theorem dg_at (k : Nat) (p t : List UInt8) (hl : p.length = k) (h : digs p) : dgB k (p ++ t) = false ∧ dgS k (p ++ t) = t ∧ dgN k 0 (p ++ t) = Num p := by
  subst hl; exact dg_true p 0 t h

/-- Form of a part and the rest. -/
theorem Form_app (p t f g : List UInt8) (h : p.length = f.length) : Form (p ++ t) (f ++ g) = (Form p f && Form t g) := by
  induction p generalizing f with
  | nil =>
    cases f with
    | nil => simp [Form]
    | cons e f => simp at h
  | cons c p ih =>
    cases f with
    | nil => simp at h
    | cons e f => simp only [List.cons_append, Form, ih f (by simpa using h), Bool.and_assoc]
theorem Form_digs (p : List UInt8) : Form p (List.replicate p.length 100) = true ↔ digs p := by
  induction p with
  | nil => simp [Form, digs]
  | cons c p ih =>
    simp only [List.length_cons, List.replicate_succ, Form, Bool.and_eq_true, show ((100 : UInt8).toNat : Int) = 100 from rfl, FC_dig, ih]
    simp [digs]
    omega
theorem Form_lit (c x : UInt8) (hx : x ≠ 100) (hy : x ≠ 97) (t g : List UInt8) : Form (c :: t) (x :: g) = (decide (c = x) && Form t g) := by
  have h1 : ¬ (x.toNat : Int) = 100 := fun h => hx (UInt8.toNat_inj.1 (by rw [show (100 : UInt8).toNat = 100 from rfl]; omega))
  have h2 : ¬ (x.toNat : Int) = 97 := fun h => hy (UInt8.toNat_inj.1 (by rw [show (97 : UInt8).toNat = 97 from rfl]; omega))
  have h3 : FC c.toNat x.toNat = decide (c = x) := by
    unfold FC
    rw [if_neg h1, if_neg h2, Bool.eq_iff_iff]
    simp only [beq_iff_eq, decide_eq_true_eq]
    exact ⟨fun h => UInt8.toNat_inj.1 (by omega), fun h => by rw [h]⟩
  rw [Form, h3]

theorem sgB_lit {s : List UInt8} {x : UInt8} (h : sgB s [x] = false) : ∃ t, s = x :: t ∧ sgS s [x] = t := by
  obtain ⟨c, t, rfl, hc⟩ := sg_false h
  obtain rfl := (Has_one x c).1 hc
  exact ⟨t, rfl, (sg_cons hc).2.1⟩
theorem sg_lit (x : UInt8) (t : List UInt8) : sgB (x :: t) [x] = false ∧ sgS (x :: t) [x] = t :=
  have h := (Has_one x x).2 rfl
  ⟨(sg_cons h).1, (sg_cons h).2.1⟩

theorem FormD (k : Nat) {x g : List UInt8} (h : Form x (List.replicate k 100 ++ g) = true) : ∃ p t, x = p ++ t ∧ p.length = k ∧ digs p ∧ Form t g = true := by
  induction k generalizing x with
  | zero => exact ⟨[], x, rfl, rfl, fun c hc => by simp at hc, by simpa using h⟩
  | succ k ih =>
    cases x with
    | nil => simp [List.replicate_succ, Form] at h
    | cons c x =>
      simp only [List.replicate_succ, List.cons_append, Form, Bool.and_eq_true, show ((100 : UInt8).toNat : Int) = 100 from rfl, FC_dig] at h
      obtain ⟨p, t, rfl, h1, h2, h3⟩ := ih h.2
      refine ⟨c :: p, t, rfl, by simp [h1], fun d hd => ?_, h3⟩
      rcases List.mem_cons.1 hd with rfl | hd
      · omega
      · exact h2 d hd
theorem FormD' (p t g : List UInt8) (k : Nat) (hk : p.length = k) (hd : digs p) : Form (p ++ t) (List.replicate k 100 ++ g) = Form t g := by
  subst hk
  rw [Form_app p t _ g (by simp), (Form_digs p).2 hd, Bool.true_and]
theorem FormL {c : UInt8} {x g : List UInt8} (hx : c ≠ 100) (hy : c ≠ 97) (h : Form x (c :: g) = true) : ∃ t, x = c :: t ∧ Form t g = true := by
  cases x with
  | nil => simp [Form] at h
  | cons d t =>
    rw [Form_lit d c hx hy t g, Bool.and_eq_true, decide_eq_true_eq] at h
    obtain ⟨rfl, h2⟩ := h
    exact ⟨t, rfl, h2⟩
theorem FormL' (c : UInt8) (t g : List UInt8) (hx : c ≠ 100) (hy : c ≠ 97) : Form (c :: t) (c :: g) = Form t g := by
  rw [Form_lit c c hx hy t g, decide_eq_true rfl, Bool.true_and]
theorem FC_let (c : Int) : FC c ((97 : UInt8).toNat : Int) = Ltr c := by
  unfold FC
  rw [if_neg (by decide), if_pos (by decide)]
theorem FormA {x g : List UInt8} (h : Form x (97 :: 97 :: 97 :: g) = true) : ∃ a b c t, x = a :: b :: c :: t ∧ Ltr a.toNat = true ∧ Ltr b.toNat = true ∧ Ltr c.toNat = true ∧ Form t g = true := by
  match x with
  | [] => simp [Form] at h
  | [a] => simp [Form] at h
  | [a, b] => simp [Form] at h
  | a :: b :: c :: t =>
    simp only [Form, FC_let, Bool.and_eq_true] at h
    exact ⟨a, b, c, t, rfl, h.1, h.2.1, h.2.2.1, h.2.2.2⟩
theorem FormA' (a b c : UInt8) (t g : List UInt8) (h1 : Ltr a.toNat = true) (h2 : Ltr b.toNat = true) (h3 : Ltr c.toNat = true) : Form (a :: b :: c :: t) (97 :: 97 :: 97 :: g) = Form t g := by
  simp only [Form, FC_let, h1, h2, h3, Bool.true_and]

/-- A clock and what stands behind it. -/
structure Clk (s h n c z : List UInt8) : Prop where
  eq : s = h ++ 58 :: (n ++ 58 :: (c ++ z))
  lh : h.length = 2
  ln : n.length = 2
  lc : c.length = 2
  dh : digs h
  dn : digs n
  dc : digs c
theorem Clk.of {s : List UInt8} (hB : ckB s = false) : ∃ h n c z, Clk s h n c z := by
  simp only [ckB, Bool.or_eq_false_iff] at hB
  obtain ⟨⟨⟨⟨⟨⟨⟨a1, a2⟩, a3⟩, a4⟩, a5⟩, a6⟩, a7⟩, a8⟩ := hB
  obtain ⟨h, t, rfl, lh, dh, e1, -⟩ := dg_num a1
  rw [e1] at a3 a4 a6 a7
  obtain ⟨t, rfl, e2⟩ := sgB_lit a3
  rw [e2] at a4 a6 a7
  obtain ⟨n, u, rfl, ln, dn, e3, -⟩ := dg_num a4
  rw [e3] at a6 a7
  obtain ⟨u, rfl, e4⟩ := sgB_lit a6
  rw [e4] at a7
  obtain ⟨c, z, rfl, lc, dc, -, -⟩ := dg_num a7
  exact ⟨h, n, c, z, rfl, lh, ln, lc, dh, dn, dc⟩
theorem Clk.val {s h n c z : List UInt8} (k : Clk s h n c z) :
    ckV s = 3600 * Num h + 60 * Num n + Num c ∧ ckS s = z ∧ ckB s = (decide (23 < Num h) || decide (59 < Num n) || decide (59 < Num c)) := by
  obtain ⟨a1, a2, a3⟩ := dg_at 2 h (58 :: (n ++ 58 :: (c ++ z))) k.lh k.dh
  obtain ⟨b1, b2⟩ := sg_lit 58 (n ++ 58 :: (c ++ z))
  obtain ⟨c1, c2, c3⟩ := dg_at 2 n (58 :: (c ++ z)) k.ln k.dn
  obtain ⟨d1, d2⟩ := sg_lit 58 (c ++ z)
  obtain ⟨e1, e2, e3⟩ := dg_at 2 c z k.lc k.dc
  rw [k.eq]
  simp only [ckV, ckS, ckB, a1, a2, a3, b1, b2, c1, c2, c3, d1, d2, e1, e2, e3, Bool.false_or, Bool.or_false, true_and]
theorem digs2 (l : List UInt8) (h : digs l) (hl : l.length = 2) : 0 ≤ Num l ∧ Num l ≤ 99 := Num_2 l h (by omega)

theorem td_time {y m d h n s ck zn zone : Int} (h1 : h ≤ 23) (h2 : n ≤ 59) (h3 : s ≤ 59) (hck : ck = 3600 * h + 60 * n + s) (hz : zn = 60 * zone) : TdT [] false y m d ck zn = TimeT y m d h n s zone := by
  have e : 86400 * (D70 y.toNat + MB y m.toNat + d - 1) + ck - zn = TimeV y m d h n s zone := by unfold TimeV; omega
  have g : ¬ (23 < h ∨ 59 < n ∨ 59 < s) := by omega
  have hE : TdE [] false y m d ck zn = TimeE y m d h n s zone := by
    simp only [TdE, TimeE, if_neg g, e, ne_eq, not_true_eq_false, or_false, Bool.false_eq_true, if_false]
  simp only [TdT, TdV, TimeT, TimeR, hE, e]
theorem td_bad {s : List UInt8} {sh : Bool} {y m d ck zn : Int} (h : sh = true ∨ s ≠ []) : TdT s sh y m d ck zn = errForm := by
  have e : TdE s sh y m d ck zn = 1 := by unfold TdE; rw [if_pos h]
  simp only [TdT, TdV, e, errForm]; rfl
theorem time_bad {y m d h n s zone : Int} (g : 23 < h ∨ 59 < n ∨ 59 < s) : TimeT y m d h n s zone = errForm := (tm_form g).symm

/-- A web's zone. -/
structure ZnW (z : List UInt8) (g : UInt8) (a b : List UInt8) : Prop where
  eq : z = g :: (a ++ 58 :: b)
  hg : g = 43 ∨ g = 45
  la : a.length = 2
  lb : b.length = 2
  da : digs a
  db : digs b
theorem Has_pm (c : UInt8) : Has [43, 45] c.toNat = true ↔ c = 43 ∨ c = 45 := by
  simp only [Has, List.any_cons, List.any_nil, Bool.or_false, Bool.or_eq_true, beq_iff_eq]
  constructor
  · rintro (h | h)
    · exact Or.inl (UInt8.toNat_inj.1 (by omega))
    · exact Or.inr (UInt8.toNat_inj.1 (by omega))
  · rintro (rfl | rfl) <;> simp
theorem ZnW.of {z : List UInt8} (hB : znB z [58] = false) (hS : znS z [58] = []) : ∃ g a b, ZnW z g a b := by
  simp only [znB, znM, show ([58] : List UInt8) = [] ↔ False by simp, if_false, Bool.or_eq_false_iff] at hB
  obtain ⟨⟨⟨⟨⟨a1, a2⟩, a3⟩, a4⟩, a5⟩, a6⟩ := hB
  obtain ⟨g, t, rfl, hg⟩ := sg_false a1
  have e0 : sgS (g :: t) [43, 45] = t := (sg_cons hg).2.1
  simp only [znS, znM, show ([58] : List UInt8) = [] ↔ False by simp, if_false] at hS
  rw [e0] at a2 a4 a5 hS
  obtain ⟨a, u, rfl, la, da, e1, -⟩ := dg_num a2
  rw [e1] at a4 a5 hS
  obtain ⟨u, rfl, e2⟩ := sgB_lit a4
  rw [e2] at a5 hS
  obtain ⟨b, v, rfl, lb, db, e3, -⟩ := dg_num a5
  rw [e3] at hS
  subst hS
  exact ⟨g, a, b, by simp, (Has_pm g).1 hg, la, lb, da, db⟩
theorem ZnW.val {z : List UInt8} {g : UInt8} {a b : List UInt8} (k : ZnW z g a b) :
    znB z [58] = (decide (23 < Num a) || decide (59 < Num b)) ∧ znS z [58] = [] ∧ znV z [58] = 60 * ZV g.toNat (Num a) (Num b) ∧ ZoneV z = ZV g.toNat (Num a) (Num b) ∧ ZoneB z = (decide (Num a ≤ 23) && decide (Num b ≤ 59)) := by
  obtain ⟨p1, p2, p3⟩ := sg_cons (t := a ++ 58 :: b) ((Has_pm g).2 k.hg)
  obtain ⟨a1, a2, a3⟩ := dg_at 2 a (58 :: b) k.la k.da
  obtain ⟨b1, b2⟩ := sg_lit 58 b
  obtain ⟨c1, c2, c3⟩ := dg_at 2 b [] k.lb k.db
  rw [List.append_nil] at c1 c2 c3
  have t1 : List.take 2 (a ++ 58 :: b) = a := List.take_left' k.la
  have t2 : List.drop 3 (a ++ 58 :: b) = b := by
    rw [show a ++ 58 :: b = (a ++ [58]) ++ b by simp]; exact List.drop_left' (by simp [k.la])
  rw [k.eq]
  refine ⟨?_, ?_, ?_, ?_, ?_⟩
  · simp only [znB, znM, show ([58] : List UInt8) = [] ↔ False by simp, if_false, p1, p2, a1, a2, a3, b1, b2, c1, c3, Bool.false_or, Bool.or_false]
  · simp only [znS, znM, show ([58] : List UInt8) = [] ↔ False by simp, if_false, p2, a2, b2, c2]
  · simp only [znV, znG, znM, show ([58] : List UInt8) = [] ↔ False by simp, if_false, p2, p3, a2, a3, b2, c3]
    unfold ZV; split <;> omega
  · simp [ZoneV, t1, t2]
  · simp [ZoneB, t1, t2]
theorem ZnW.form {z : List UInt8} : (Form z plusForm = true ∨ Form z minusForm = true) ↔ ∃ g a b, ZnW z g a b := by
  constructor
  · rintro (h | h)
    · obtain ⟨t, rfl, h⟩ := FormL (by decide) (by decide) (show Form z (43 :: (List.replicate 2 100 ++ 58 :: (List.replicate 2 100 ++ []))) = true from h)
      obtain ⟨a, t, rfl, la, da, h⟩ := FormD 2 h
      obtain ⟨t, rfl, h⟩ := FormL (by decide) (by decide) h
      obtain ⟨b, t, rfl, lb, db, h⟩ := FormD 2 h
      cases t with
      | nil => exact ⟨43, a, b, by simp, Or.inl rfl, la, lb, da, db⟩
      | cons x t => simp [Form] at h
    · obtain ⟨t, rfl, h⟩ := FormL (by decide) (by decide) (show Form z (45 :: (List.replicate 2 100 ++ 58 :: (List.replicate 2 100 ++ []))) = true from h)
      obtain ⟨a, t, rfl, la, da, h⟩ := FormD 2 h
      obtain ⟨t, rfl, h⟩ := FormL (by decide) (by decide) h
      obtain ⟨b, t, rfl, lb, db, h⟩ := FormD 2 h
      cases t with
      | nil => exact ⟨45, a, b, by simp, Or.inr rfl, la, lb, da, db⟩
      | cons x t => simp [Form] at h
  · rintro ⟨g, a, b, k⟩
    have h0 : Form (a ++ 58 :: b) (List.replicate 2 100 ++ 58 :: (List.replicate 2 100 ++ [])) = true := by
      rw [FormD' _ _ _ 2 k.la k.da, FormL' 58 _ _ (by decide) (by decide), show b = b ++ [] by simp, FormD' _ _ _ 2 k.lb k.db]; rfl
    rw [k.eq]
    rcases k.hg with rfl | rfl
    · exact Or.inl ((FormL' 43 _ _ (by decide) (by decide)).trans h0)
    · exact Or.inr ((FormL' 45 _ _ (by decide) (by decide)).trans h0)

/-- A web's text up to its zone. -/
structure Wsh (l p m d s : List UInt8) : Prop where
  eq : l = p ++ 45 :: (m ++ 45 :: (d ++ 84 :: s))
  lp : p.length = 4
  lm : m.length = 2
  ld : d.length = 2
  dp : digs p
  dm : digs m
  dd : digs d
theorem Wsh.val {l p m d s : List UInt8} (k : Wsh l p m d s) : dgN 4 0 l = Num p ∧ dgN 2 0 (wS1 l) = Num m ∧ dgN 2 0 (wS2 l) = Num d ∧ wS3 l = s ∧ wB l = ckB s := by
  obtain ⟨a1, a2, a3⟩ := dg_at 4 p (45 :: (m ++ 45 :: (d ++ 84 :: s))) k.lp k.dp
  obtain ⟨b1, b2⟩ := sg_lit 45 (m ++ 45 :: (d ++ 84 :: s))
  obtain ⟨c1, c2, c3⟩ := dg_at 2 m (45 :: (d ++ 84 :: s)) k.lm k.dm
  obtain ⟨d1, d2⟩ := sg_lit 45 (d ++ 84 :: s)
  obtain ⟨e1, e2, e3⟩ := dg_at 2 d (84 :: s) k.ld k.dd
  obtain ⟨f1, f2⟩ := sg_lit 84 s
  have g1 := Num_4 p k.dp k.lp
  have g2 := digs2 m k.dm k.lm
  have g3 := digs2 d k.dd k.ld
  have q1 : decide (9999 < Num p) = false := decide_eq_false (by omega)
  have q2 : decide (99 < Num m) = false := decide_eq_false (by omega)
  have q3 : decide (99 < Num d) = false := decide_eq_false (by omega)
  rw [k.eq]
  simp only [wB, wS3, wS2, wS1, a1, a2, a3, b1, b2, c1, c2, c3, d1, d2, e1, e2, e3, f1, f2, q1, q2, q3, Bool.false_or, Bool.or_false, and_self]
theorem Wsh.of {l : List UInt8} (hB : wB l = false) : ∃ p m d s, Wsh l p m d s ∧ ckB s = false := by
  simp only [wB, Bool.or_eq_false_iff] at hB
  obtain ⟨⟨⟨⟨⟨⟨⟨⟨⟨a1, -⟩, a3⟩, a4⟩, -⟩, a6⟩, a7⟩, -⟩, a9⟩, a10⟩ := hB
  obtain ⟨p, t, rfl, lp, dp, e1, -⟩ := dg_num a1
  simp only [wS3, wS2, wS1, e1] at *
  obtain ⟨t, rfl, e2⟩ := sgB_lit a3
  simp only [e2] at *
  obtain ⟨m, u, rfl, lm, dm, e3, -⟩ := dg_num a4
  simp only [e3] at *
  obtain ⟨u, rfl, e4⟩ := sgB_lit a6
  simp only [e4] at *
  obtain ⟨d, v, rfl, ld, dd, e5, -⟩ := dg_num a7
  simp only [e5] at *
  obtain ⟨v, rfl, e6⟩ := sgB_lit a9
  simp only [e6] at *
  exact ⟨p, m, d, v, ⟨rfl, lp, lm, ld, dp, dm, dd⟩, a10⟩
theorem web_form {l : List UInt8} (h20 : 20 ≤ l.length) : Form (l.take 19) webForm = true ↔ ∃ p m d s h n c z, Wsh l p m d s ∧ Clk s h n c z := by
  constructor
  · intro h
    have hl : l = l.take 19 ++ l.drop 19 := (List.take_append_drop 19 l).symm
    generalize l.take 19 = x at h hl
    generalize l.drop 19 = z at hl
    subst hl
    clear h20
    obtain ⟨p, t, rfl, lp, dp, h⟩ := FormD 4 (show Form x (List.replicate 4 100 ++ 45 :: (List.replicate 2 100 ++ 45 :: (List.replicate 2 100 ++ 84 :: (List.replicate 2 100 ++ 58 :: (List.replicate 2 100 ++ 58 :: (List.replicate 2 100 ++ [])))))) = true from h)
    obtain ⟨t, rfl, h⟩ := FormL (by decide) (by decide) h
    obtain ⟨m, t, rfl, lm, dm, h⟩ := FormD 2 h
    obtain ⟨t, rfl, h⟩ := FormL (by decide) (by decide) h
    obtain ⟨d, t, rfl, ld, dd, h⟩ := FormD 2 h
    obtain ⟨t, rfl, h⟩ := FormL (by decide) (by decide) h
    obtain ⟨a, t, rfl, la, da, h⟩ := FormD 2 h
    obtain ⟨t, rfl, h⟩ := FormL (by decide) (by decide) h
    obtain ⟨b, t, rfl, lb, db, h⟩ := FormD 2 h
    obtain ⟨t, rfl, h⟩ := FormL (by decide) (by decide) h
    obtain ⟨c, t, rfl, lc, dc, h⟩ := FormD 2 h
    cases t with
    | nil => exact ⟨p, m, d, a ++ 58 :: (b ++ 58 :: (c ++ z)), a, b, c, z, ⟨by simp, lp, lm, ld, dp, dm, dd⟩, ⟨rfl, la, lb, lc, da, db, dc⟩⟩
    | cons x t => simp [Form] at h
  · rintro ⟨p, m, d, s, h, n, c, z, k, j⟩
    have e : l = (p ++ 45 :: (m ++ 45 :: (d ++ 84 :: (h ++ 58 :: (n ++ 58 :: (c ++ [])))))) ++ z := by rw [k.eq, j.eq]; simp
    rw [e, List.take_left' (by simp [k.lp, k.lm, k.ld, j.lh, j.ln, j.lc])]
    show Form _ (List.replicate 4 100 ++ 45 :: (List.replicate 2 100 ++ 45 :: (List.replicate 2 100 ++ 84 :: (List.replicate 2 100 ++ 58 :: (List.replicate 2 100 ++ 58 :: (List.replicate 2 100 ++ [])))))) = true
    rw [FormD' _ _ _ 4 k.lp k.dp, FormL' _ _ _ (by decide) (by decide), FormD' _ _ _ 2 k.lm k.dm, FormL' _ _ _ (by decide) (by decide), FormD' _ _ _ 2 k.ld k.dd, FormL' _ _ _ (by decide) (by decide),
      FormD' _ _ _ 2 j.lh j.dh, FormL' _ _ _ (by decide) (by decide), FormD' _ _ _ 2 j.ln j.dn, FormL' _ _ _ (by decide) (by decide), FormD' _ _ _ 2 j.lc j.dc]
    rfl
theorem drop_app {α : Type} (a b : List α) (k : Nat) (h : a.length = k) (j : Nat) : (a ++ b).drop (k + j) = b.drop j := by
  rw [← List.drop_drop, List.drop_left' h]
theorem web_take {l p m d s h n c z : List UInt8} (k : Wsh l p m d s) (j : Clk s h n c z) :
    l.take 4 = p ∧ (l.drop 5).take 2 = m ∧ (l.drop 8).take 2 = d ∧ ((l.drop 11).take 8).take 2 = h ∧ (((l.drop 11).take 8).drop 3).take 2 = n ∧ ((l.drop 11).take 8).drop 6 = c ∧ l.drop 19 = z ∧ l.length = 19 + z.length := by
  have e5 : l.drop 5 = m ++ 45 :: (d ++ 84 :: s) := by rw [k.eq, show p ++ 45 :: (m ++ 45 :: (d ++ 84 :: s)) = (p ++ [45]) ++ (m ++ 45 :: (d ++ 84 :: s)) by simp]; exact List.drop_left' (by simp [k.lp])
  have e8 : l.drop 8 = d ++ 84 :: s := by rw [show l.drop 8 = (l.drop 5).drop 3 by rw [List.drop_drop], e5, show m ++ 45 :: (d ++ 84 :: s) = (m ++ [45]) ++ (d ++ 84 :: s) by simp]; exact List.drop_left' (by simp [k.lm])
  have e11 : l.drop 11 = s := by rw [show l.drop 11 = (l.drop 8).drop 3 by rw [List.drop_drop], e8, show d ++ 84 :: s = (d ++ [84]) ++ s by simp]; exact List.drop_left' (by simp [k.ld])
  have es : s = (h ++ 58 :: (n ++ 58 :: c)) ++ z := by rw [j.eq]; simp
  have e8' : s.take 8 = h ++ 58 :: (n ++ 58 :: c) := by rw [es]; exact List.take_left' (by simp [j.lh, j.ln, j.lc])
  have ez : s.drop 8 = z := by rw [es]; exact List.drop_left' (by simp [j.lh, j.ln, j.lc])
  have e3 : (h ++ 58 :: (n ++ 58 :: c)).drop 3 = n ++ 58 :: c := by rw [show h ++ 58 :: (n ++ 58 :: c) = (h ++ [58]) ++ (n ++ 58 :: c) by simp]; exact List.drop_left' (by simp [j.lh])
  have e6 : (h ++ 58 :: (n ++ 58 :: c)).drop 6 = c := by rw [show (h ++ 58 :: (n ++ 58 :: c)).drop 6 = ((h ++ 58 :: (n ++ 58 :: c)).drop 3).drop 3 by rw [List.drop_drop], e3, show n ++ 58 :: c = (n ++ [58]) ++ c by simp]; exact List.drop_left' (by simp [j.ln])
  refine ⟨?_, ?_, ?_, ?_, ?_, ?_, ?_, ?_⟩
  · rw [k.eq]; exact List.take_left' k.lp
  · rw [e5]; exact List.take_left' k.lm
  · rw [e8]; exact List.take_left' k.ld
  · rw [e11, e8']; exact List.take_left' j.lh
  · rw [e11, e8', e3]; exact List.take_left' j.ln
  · rw [e11, e8', e6]
  · rw [show l.drop 19 = (l.drop 11).drop 8 by rw [List.drop_drop], e11, ez]
  · rw [k.eq, j.eq]; simp [k.lp, k.lm, k.ld, j.lh, j.ln, j.lc]; omega

theorem web_eq (l : List UInt8) : WebP l = WebT l := by
  by_cases hs : ∃ p m d s h n c z, Wsh l p m d s ∧ Clk s h n c z
  · obtain ⟨p, m, d, s, h, n, c, z, k, j⟩ := hs
    obtain ⟨v1, v2, v3, v4, v5⟩ := k.val
    obtain ⟨c1, c2, c3⟩ := j.val
    obtain ⟨t1, t2, t3, t4, t5, t6, t7, t8⟩ := web_take k j
    have b1 := digs2 h j.dh j.lh
    have b2 := digs2 n j.dn j.ln
    have b3 := digs2 c j.dc j.lc
    unfold WebP
    rw [v1, v2, v3, v4, v5, c1, c2, c3]
    by_cases hz0 : z = []
    · subst hz0
      rw [if_neg (by simp), td_bad (Or.inl (by simp [znB, sgB]))]
      unfold WebT
      rw [if_pos (Or.inl (by rw [t8]; simp) : l.length < 20 ∨ Form (List.take 19 l) webForm = false)]
    have h20 : 20 ≤ l.length := by
      have : 0 < z.length := List.length_pos_iff.2 hz0
      omega
    have hF := (web_form h20).2 ⟨p, m, d, s, h, n, c, z, k, j⟩
    unfold WebT
    rw [if_neg (by rw [hF]; simp; omega : ¬ (l.length < 20 ∨ Form (List.take 19 l) webForm = false)), t1, t2, t3, t4, t5, t6, t7]
    by_cases hr : 23 < Num h ∨ 59 < Num n ∨ 59 < Num c
    · rw [time_bad hr]
      have e : (decide (23 < Num h) || decide (59 < Num n) || decide (59 < Num c)) = true := by simp only [Bool.or_eq_true, decide_eq_true_eq]; omega
      rw [e]
      split <;> split <;> exact td_bad (Or.inl rfl)
    · have e : (decide (23 < Num h) || decide (59 < Num n) || decide (59 < Num c)) = false := by simp only [Bool.or_eq_false_iff, decide_eq_false_iff_not]; omega
      rw [e]
      by_cases hz : ∃ g a b, ZnW z g a b
      · obtain ⟨g, a, b, q⟩ := hz
        obtain ⟨q1, q2, q3, q4, q5⟩ := q.val
        have hw : WebZ z = (ZV g.toNat (Num a) (Num b), (decide (Num a ≤ 23) && decide (Num b ≤ 59))) := by
          unfold WebZ; rw [if_pos (ZnW.form.2 ⟨g, a, b, q⟩), q4, q5]
        have hn : z ≠ [90] := by rw [q.eq]; rcases q.hg with rfl | rfl <;> simp
        rw [if_neg hn, hw, q1, q2, q3]
        by_cases hb : Num a ≤ 23 ∧ Num b ≤ 59
        · have e1 : (decide (23 < Num a) || decide (59 < Num b)) = false := by simp only [Bool.or_eq_false_iff, decide_eq_false_iff_not]; omega
          have e2 : (decide (Num a ≤ 23) && decide (Num b ≤ 59)) = true := by simp only [Bool.and_eq_true, decide_eq_true_eq]; omega
          rw [e1, e2, if_neg (by simp)]
          exact td_time (by omega) (by omega) (by omega) rfl rfl
        · have e1 : (decide (23 < Num a) || decide (59 < Num b)) = true := by simp only [Bool.or_eq_true, decide_eq_true_eq]; omega
          have e2 : (decide (Num a ≤ 23) && decide (Num b ≤ 59)) = false := by rw [Bool.and_eq_false_iff]; simp only [decide_eq_false_iff_not]; omega
          rw [e1, e2, if_pos rfl]
          exact td_bad (Or.inl rfl)
      · have hw : WebZ z = (0, z == [90]) := by unfold WebZ; rw [if_neg (fun h => hz (ZnW.form.1 h))]
        rw [hw]
        by_cases h90 : z = [90]
        · subst h90
          rw [if_pos rfl, if_neg (by simp)]
          exact td_time (by omega) (by omega) (by omega) rfl rfl
        · rw [if_neg h90, if_pos (by simpa using h90)]
          refine td_bad ?_
          by_cases hB : znB z [58] = false
          · exact Or.inr (fun hS => hz (ZnW.of hB hS))
          · exact Or.inl (by simpa using hB)
  · have hB : wB l = true := by
      cases hB : wB l
      · obtain ⟨p, m, d, s, k, hc⟩ := Wsh.of hB
        obtain ⟨h, n, c, z, j⟩ := Clk.of hc
        exact absurd ⟨p, m, d, s, h, n, c, z, k, j⟩ hs
      · rfl
    have hT : WebT l = errForm := by
      unfold WebT
      by_cases h20 : l.length < 20
      · rw [if_pos (Or.inl h20)]
      · rw [if_pos (Or.inr (by rw [Bool.eq_false_iff]; exact fun hF => hs ((web_form (by omega)).1 hF)))]
    unfold WebP
    rw [hT, hB]
    split
    · exact td_bad (Or.inl rfl)
    · exact td_bad (Or.inl rfl)
end Go.Proofs.YtkmndlnhpegdgaaDoor

/- escape.Take, Strict; what must be in any case; signs that are put are taken as they were. · Trees: a token comes: a text; one that closes. · Trees: a token comes that opens. · Tokens: what is printed is read as it was; what is read is right: plain laws. -/
import Derived.Test.YtkacjnifhmgeiaaGreatDoorEscI
import Derived.Test.YtkacjnifhmgeiaaGreatDoorGrpI
import Derived.Test.YtkacjnifhmgeiaaGreatDoorGrpM
import Derived.Deep.CutBlock
import Derived.Test.YtkacjnifhmgeiaaGreatDoorGrpB
import Derived.Test.YtkacjnifhmgeiaaGreatDoorGrpC
namespace Go.Proofs.YtkacjnifhmgeiaaGreatDoor
open Go.RowKit

theorem Take_c (l : List UInt8) (w : World) (hE : ES w) :
    Calls Tryz.prog 30 #[.string ⟨l.toArray⟩] w fun e w' => e = .returned (.tuple #[.string ⟨(short l (Tk l).1).toArray⟩, .int .i64 (tooL l)]) ∧ Bl w w' := by
  by_cases h : 3000 < l.length
  · have h' : decide (3000 < l.length) = true := by simpa using h
    have HT := Lib.hid (show tooL l = 2 by unfold tooL; rw [if_pos h])
    have HI := Lib.hid (show short l (Tk l).1 = [] by unfold short; rw [if_pos h])
    clear h
    go_enter Tryz.func30, Tryz.ntmps30
    go_wp2_with (go_at_call 32; refine (long_c _ _).mono ?_; rintro e w' ⟨rfl, rfl⟩)
    go_ret2
    exact ⟨by rw [HT.out, HI.out]; rfl, Bl.refl _⟩
  · have h' : decide (3000 < l.length) = false := by simpa using h
    have HT := Lib.hid (show tooL l = 0 by unfold tooL; rw [if_neg h])
    have HI := Lib.hid (show short l (Tk l).1 = (Tk l).1 by unfold short; rw [if_neg h])
    have TC := Lib.hid (fun W hW => taken_c l (by omega) W hW)
    clear h
    go_enter Tryz.func30, Tryz.ntmps30
    go_wp2_with (first | (go_at_call 32; refine (long_c _ _).mono ?_; rintro e w' ⟨rfl, rfl⟩) | (go_at_call 55; (with_reducible refine (TC.out _ hE).mono ?_); rintro e w' ⟨rfl, hb⟩) | go_quiet (fail))
    go_ret2
    exact ⟨by rw [HT.out, HI.out]; rfl, hb⟩
/-- Strict: its text and its errno. -/
def strT (l : List UInt8) : List UInt8 := if 3000 < l.length then [] else if (Tk l).2 then (Tk l).1 else []
def strE (l : List UInt8) : Int := if 3000 < l.length then 2 else if (Tk l).2 then 0 else 1
theorem Strict_c (l : List UInt8) (w : World) (hE : ES w) :
    Calls Tryz.prog 31 #[.string ⟨l.toArray⟩] w fun e w' => e = .returned (.tuple #[.string ⟨(strT l).toArray⟩, .int .i64 (strE l)]) ∧ Bl w w' := by
  by_cases h : 3000 < l.length
  · have h' : decide (3000 < l.length) = true := by simpa using h
    have HT := Lib.hid (show strE l = 2 by unfold strE; rw [if_pos h])
    have HI := Lib.hid (show strT l = [] by unfold strT; rw [if_pos h])
    clear h
    go_enter Tryz.func31, Tryz.ntmps31
    go_wp2_with (go_at_call 32; refine (long_c _ _).mono ?_; rintro e w' ⟨rfl, rfl⟩)
    go_ret2
    exact ⟨by rw [HT.out, HI.out]; rfl, Bl.refl _⟩
  · have h' : decide (3000 < l.length) = false := by simpa using h
    have TC := Lib.hid (fun W hW => taken_c l (by omega) W hW)
    have HL := Lib.hid h
    cases h2 : (Tk l).2
    · have HT := Lib.hid (show strE l = 1 by unfold strE; rw [if_neg h, h2]; rfl)
      have HI := Lib.hid (show strT l = [] by unfold strT; rw [if_neg h, h2]; rfl)
      clear h
      go_enter Tryz.func31, Tryz.ntmps31
      go_wp2_with (first | (go_at_call 32; refine (long_c _ _).mono ?_; rintro e w' ⟨rfl, rfl⟩) | (go_at_call 55; (with_reducible refine (TC.out _ hE).mono ?_); rintro e w' ⟨rfl, hb⟩) | go_quiet (fail))
      go_ret2
      exact ⟨by rw [HT.out, HI.out]; rfl, hb⟩
    · have HT := Lib.hid (show strE l = 0 by unfold strE; rw [if_neg h, h2]; rfl)
      have HI := Lib.hid (show strT l = (Tk l).1 by unfold strT; rw [if_neg h, h2]; rfl)
      clear h
      go_enter Tryz.func31, Tryz.ntmps31
      go_wp2_with (first | (go_at_call 32; refine (long_c _ _).mono ?_; rintro e w' ⟨rfl, rfl⟩) | (go_at_call 55; (with_reducible refine (TC.out _ hE).mono ?_); rintro e w' ⟨rfl, hb⟩) | go_quiet (fail))
      go_ret2
      exact ⟨by rw [HT.out, HI.out]; rfl, hb⟩

theorem bg1 : short [60, 97, 32, 38, 32, 39, 98, 39, 62] (PutL [60, 97, 32, 38, 32, 39, 98, 39, 62]) = [38, 108, 116, 59, 97, 32, 38, 97, 109, 112, 59, 32, 39, 98, 39, 38, 103, 116, 59] ∧ tooL [60, 97, 32, 38, 32, 39, 98, 39, 62] = 0 := by decide +kernel
theorem bg2 : short [38, 108, 116, 59, 38, 35, 54, 53, 59, 38, 35, 120, 50, 48, 97, 67, 59, 38, 97, 109, 112, 59, 38, 110, 111, 59, 38, 35, 48, 59] (Tk [38, 108, 116, 59, 38, 35, 54, 53, 59, 38, 35, 120, 50, 48, 97, 67, 59, 38, 97, 109, 112, 59, 38, 110, 111, 59, 38, 35, 48, 59]).1 = [60, 65, 226, 130, 172, 38, 38, 110, 111, 59, 239, 191, 189] ∧ tooL [38, 108, 116, 59, 38, 35, 54, 53, 59, 38, 35, 120, 50, 48, 97, 67, 59, 38, 97, 109, 112, 59, 38, 110, 111, 59, 38, 35, 48, 59] = 0 := by decide +kernel
theorem bg3 : strE [38, 110, 111, 59] = 1 := by decide +kernel
theorem bg4 : strT [38, 97, 112, 111, 115, 59] = [39] ∧ strE [38, 97, 112, 111, 115, 59] = 0 := by decide +kernel
set_option maxHeartbeats 1000000 in
set_option maxRecDepth 100000 in
theorem begun_c (w : World) (hE : ES w) : Calls Tryz.prog 15 #[] w fun e w' => e = .returned (.bool true) ∧ Bl w w' := by
  have p1 := fun W => Put_c [60, 97, 32, 38, 32, 39, 98, 39, 62] W
  have p2 := fun W hW => Take_c [38, 108, 116, 59, 38, 35, 54, 53, 59, 38, 35, 120, 50, 48, 97, 67, 59, 38, 97, 109, 112, 59, 38, 110, 111, 59, 38, 35, 48, 59] W hW
  have p3 := fun W hW => Strict_c [38, 110, 111, 59] W hW
  have p4 := fun W hW => Strict_c [38, 97, 112, 111, 115, 59] W hW
  rw [bg1.1, bg1.2] at p1
  rw [bg2.1, bg2.2] at p2
  rw [bg3] at p3
  rw [bg4.1, bg4.2] at p4
  have P1 := Lib.hid p1
  have P2 := Lib.hid p2
  have P3 := Lib.hid p3
  have P4 := Lib.hid p4
  clear p1 p2 p3 p4
  go_enter Tryz.func15, Tryz.ntmps15
  go_wp2_with (first | (go_at_call 16; (with_reducible refine (P1.out _).mono ?_); rintro e w1 ⟨rfl, hb1⟩; have h1 := hE.of_bl hb1) | (go_at_call 30; (with_reducible refine (P2.out _ h1).mono ?_); rintro e w2 ⟨rfl, hb2⟩; have h2 := h1.of_bl hb2) | (go_at_call 31; (with_reducible refine (P3.out _ h2).mono ?_); rintro e w3 ⟨rfl, hb3⟩; have h3 := h2.of_bl hb3) | (go_at_call 31; (with_reducible refine (P4.out _ h3).mono ?_); rintro e w4 ⟨rfl, hb4⟩) | go_quiet (fail))
  go_ret
  exact ⟨rfl, by repeat (first | exact Bl.refl _ | assumption | refine Bl.drewN ?_ _ | refine Bl.trans ?_ (by assumption))⟩
end Go.Proofs.YtkacjnifhmgeiaaGreatDoor

namespace Go.Proofs.YtkacjnifhmgeiaaGreatDoor
open Go.RowKit

/-- What a builder holds may go on. -/
structure OkS (s : St) (more : Nat) : Prop where
  iv : Iv s
  cnt : cntS s ≤ 90000
  txt : (ntxS s).length + more ≤ 1099511627776
theorem abI_rev (nm : Nm) (p : Nm → Bool) (l : List Nm) : abI nm p l.reverse = match abv nm p l with | some i => (i : Int) | none => -1 := by unfold abI; rw [List.reverse_reverse]; cases abv nm p l <;> rfl
end Go.Proofs.YtkacjnifhmgeiaaGreatDoor

namespace Go.Proofs.YtkacjnifhmgeiaaGreatDoor
open Go.RowKit

/-- A node in a block of its own. -/
def Nx (w : World) (q : Nat) (nm : Nm) (va : Value) : Prop := w.heap[q]? = some (.cells #[.string ⟨nm.toArray⟩, va, .string ⟨#[]⟩, .slice none 0 0] 25 (0, 0))
theorem Nx.cells {w : World} {q : Nat} {nm : Nm} {va : Value} (h : Nx w q nm va) : w.cell? ⟨q, 0, none⟩ = some (.string ⟨nm.toArray⟩) ∧ w.cell? ⟨q, 1, none⟩ = some va ∧ w.cell? ⟨q, 2, none⟩ = some (.string ⟨#[]⟩) ∧ w.cell? ⟨q, 3, none⟩ = some (.slice none 0 0) := by
  unfold Nx at h
  simp [World.cell?, h]
theorem Tryz.infoSl : (Tryz.prog.info? 23).map (fun i => (i.zero, i.size, i.bytes)) = some (some (.slice none 0 0), 1, 24) := by kernel_rfl
/-- A node's block that nothing has been put into yet. -/
def Nz (w : World) (q : Nat) : Prop := w.heap[q]? = some (.cells #[.string ⟨#[]⟩, .slice none 0 0, .string ⟨#[]⟩, .slice none 0 0] 25 (0, 0))
theorem Nz.cells {w : World} {q : Nat} (h : Nz w q) : w.cell? ⟨q, 0, none⟩ = some (.string ⟨#[]⟩) ∧ w.cell? ⟨q, 1, none⟩ = some (.slice none 0 0) ∧ w.cell? ⟨q, 2, none⟩ = some (.string ⟨#[]⟩) ∧ w.cell? ⟨q, 3, none⟩ = some (.slice none 0 0) ∧
    w.frozen? ⟨q, 0, none⟩ = false ∧ w.frozen? ⟨q, 1, none⟩ = false ∧ w.frozen? ⟨q, 2, none⟩ = false ∧ w.frozen? ⟨q, 3, none⟩ = false ∧ q < w.heap.size := by
  have hl := (Array.getElem?_eq_some_iff.1 h).1
  have h' : w.heap[q]? = _ := h
  have key : w.cell? ⟨q, 0, none⟩ = some (.string ⟨#[]⟩) ∧ w.cell? ⟨q, 1, none⟩ = some (.slice none 0 0) ∧ w.cell? ⟨q, 2, none⟩ = some (.string ⟨#[]⟩) ∧ w.cell? ⟨q, 3, none⟩ = some (.slice none 0 0) ∧
      w.frozen? ⟨q, 0, none⟩ = false ∧ w.frozen? ⟨q, 1, none⟩ = false ∧ w.frozen? ⟨q, 2, none⟩ = false ∧ w.frozen? ⟨q, 3, none⟩ = false := by
    clear h hl
    simp [World.cell?, World.frozen?, h']
  exact ⟨key.1, key.2.1, key.2.2.1, key.2.2.2.1, key.2.2.2.2.1, key.2.2.2.2.2.1, key.2.2.2.2.2.2.1, key.2.2.2.2.2.2.2, hl⟩
end Go.Proofs.YtkacjnifhmgeiaaGreatDoor

namespace Go.Proofs.YtkacjnifhmgeiaaGreatDoor
open Go.RowKit

theorem tw_app {α : Type} (p : α → Bool) (a : List α) (c : α) (r : List α) (ha : a.all p = true) (hc : p c = false) : (a ++ c :: r).takeWhile p = a ∧ (a ++ c :: r).dropWhile p = c :: r := by
  induction a with
  | nil => simp [hc]
  | cons x a ih =>
    simp only [List.all_cons, Bool.and_eq_true] at ha
    have := ih ha.2
    simp [ha.1, this.1, this.2]
theorem tw_all {α : Type} (p : α → Bool) (a : List α) (ha : a.all p = true) : a.takeWhile p = a ∧ a.dropWhile p = [] := by
  induction a with
  | nil => simp
  | cons x a ih =>
    simp only [List.all_cons, Bool.and_eq_true] at ha
    have := ih ha.2
    simp [ha.1, this.1, this.2]
theorem lwr_iff (c : UInt8) : lwr c = true ↔ 97 ≤ c.toNat ∧ c.toNat ≤ 122 := by simp [lwr]
theorem nmc_facts {c : UInt8} (h : nmc c = true) : wht c = false ∧ wsl c = false ∧ nch c = true ∧ tch c = true ∧ vch c = true ∧ fld c = c := by
  have h' : (97 ≤ c.toNat ∧ c.toNat ≤ 122) ∨ (48 ≤ c.toNat ∧ c.toNat ≤ 57) ∨ c.toNat = 45 := by
    simp only [nmc, lwr, dgt, Bool.or_eq_true, Bool.and_eq_true, decide_eq_true_eq] at h; omega
  have hw : wht c = false := by simp [wht]; omega
  refine ⟨hw, ?_, ?_, ?_, ?_, ?_⟩
  · simp [wsl, hw]; omega
  · simp [nch, hw]; omega
  · simp [tch, hw]; omega
  · simp [vch, hw]; omega
  · unfold fld; rw [if_neg (by omega)]
theorem lwr_nmc {c : UInt8} (h : lwr c = true) : nmc c = true := by simp [nmc, h]
theorem isNm_cons {l : List UInt8} (h : isNm l = true) : ∃ c r, l = c :: r ∧ lwr c = true ∧ r.all nmc = true ∧ r.length ≤ 19 := by
  cases l with
  | nil => simp [isNm] at h
  | cons c r => simp only [isNm, Bool.and_eq_true, decide_eq_true_eq] at h; exact ⟨c, r, rfl, h.1.1, h.1.2, h.2⟩
theorem isNm_all {l : List UInt8} (h : isNm l = true) : l.all nmc = true := by
  obtain ⟨c, r, rfl, h1, h2, _⟩ := isNm_cons h
  simp [lwr_nmc h1, h2]
theorem all_imp {l : List UInt8} {p q : UInt8 → Bool} (h : l.all p = true) (hpq : ∀ c, p c = true → q c = true) : l.all q = true := by
  rw [List.all_eq_true] at *; exact fun c hc => hpq c (h c hc)
theorem fold_nm {l : List UInt8} (h : l.all nmc = true) : fold l = l := by
  induction l with
  | nil => rfl
  | cons c l ih => simp only [List.all_cons, Bool.and_eq_true] at h; simp only [fold, List.map_cons] at *; rw [(nmc_facts h.1).2.2.2.2.2, ih h.2]
theorem isNm_len {l : List UInt8} (h : isNm l = true) : l.length ≤ 20 := by
  obtain ⟨c, r, rfl, _, _, h3⟩ := isNm_cons h; simp; omega

theorem put_no34 (v : List UInt8) : (PutL v).all (· != 34) = true := by
  rw [List.all_eq_true]; intro c hc; simpa using (PutL_no v c hc).2.2
theorem valOf_quoted (v r : List UInt8) : valOf (34 :: PutL v ++ 34 :: r) = some (PutL v, r) := by
  have h := tw_app (· != 34) (PutL v) 34 r (put_no34 v) (by simp)
  unfold valOf
  rw [List.cons_append, List.dropWhile_cons_of_neg (by decide)]
  simp only [true_or, if_true, h.1, h.2]
theorem oneAt_written (c : UInt8) (n v r : List UInt8) (hc : lwr c = true) (hn : n.all nmc = true) : oneAt c (n ++ 61 :: 34 :: PutL v ++ 34 :: r) = some ((c :: n, v), r) := by
  have h1 := tw_app nch n 61 (34 :: PutL v ++ 34 :: r) (all_imp hn fun c h => (nmc_facts h).2.2.1) (by decide)
  unfold oneAt
  rw [List.append_assoc, List.cons_append, h1.1, h1.2, List.dropWhile_cons_of_neg (by decide)]
  simp only [if_true, valOf_quoted, Tk_put]
  rw [fold_nm (by simp [lwr_nmc hc, hn])]
theorem atEF_cons {p : List Atr} {a : Atr} {l : List Atr} (h : atEF p (a :: l) = 0) : isNm a.1 = true ∧ (p.any fun x => x.1 == a.1) = false ∧ atEF (p ++ [a]) l = 0 := by
  unfold atEF at h
  cases h1 : isNm a.1
  · rw [h1] at h; simp at h
  · rw [h1] at h
    simp only [Bool.true_eq_false, if_false] at h
    split at h
    · simp at h
    · rename_i h2; exact ⟨rfl, Bool.eq_false_iff.2 h2, h⟩
theorem atP_written (al : List Atr) : ∀ (out : List Atr) (r : List UInt8), atEF out al = 0 → atP (atW al ++ 62 :: r) out = some (out ++ al, r) := by
  induction al with
  | nil =>
    intro out r _
    rw [List.append_nil]
    exact atP_end (by simp [atW, wsl, wht])
  | cons a al ih =>
    intro out r h
    obtain ⟨h1, h2, h3⟩ := atEF_cons h
    obtain ⟨n, v⟩ := a
    obtain ⟨c, m, rfl, hc, hm, _⟩ := isNm_cons h1
    have hw := nmc_facts (lwr_nmc hc)
    have e : atW ((c :: m, v) :: al) ++ 62 :: r = 32 :: c :: (m ++ 61 :: 34 :: PutL v ++ 34 :: (atW al ++ 62 :: r)) := by simp [atW]
    have hd : (32 :: c :: (m ++ 61 :: 34 :: PutL v ++ 34 :: (atW al ++ 62 :: r))).dropWhile wsl = c :: (m ++ 61 :: 34 :: PutL v ++ 34 :: (atW al ++ 62 :: r)) := by
      rw [List.dropWhile_cons_of_pos (by decide), List.dropWhile_cons_of_neg (by simp [hw.2.1])]
    rw [e, atP_go hd (by rintro rfl; exact absurd hc (by decide)) (oneAt_written c m v _ hc hm)]
    have ha : addA out (c :: m, v) = out ++ [(c :: m, v)] := by
      unfold addA; rw [h1, h2]; rfl
    rw [ha, ih _ _ h3, List.append_assoc]; rfl
theorem ltr_lwr {c : UInt8} (h : lwr c = true) : ltr c = true := by simp [ltr, h]
theorem atW_head (al : List Atr) (r : List UInt8) : ∃ c t, atW al ++ 62 :: r = c :: t ∧ tch c = false := by
  cases al with
  | nil => exact ⟨62, r, rfl, by decide⟩
  | cons a al => exact ⟨32, _, rfl, by decide⟩
theorem tagP_open (n : List UInt8) (al : List Atr) (r : List UInt8) (hn : isNm n = true) (ha : atE al = 0) : tagP (n ++ atW al ++ 62 :: r) = some (some (some (2, n, al, []), r)) := by
  obtain ⟨c, m, rfl, hc, hm, _⟩ := isNm_cons hn
  obtain ⟨d, t, e, hd⟩ := atW_head al r
  have hall : (c :: m).all tch = true := all_imp (isNm_all hn) fun c h => (nmc_facts h).2.2.2.1
  have h1 := tw_app tch (c :: m) d t hall hd
  rw [← e] at h1
  rw [List.append_assoc]
  simp only [List.cons_append] at h1 ⊢
  rw [tagP_cons, if_pos (ltr_lwr hc), h1.1, h1.2, atP_written al [] r ha, fold_nm (isNm_all hn)]; rfl
theorem cutS_62 (a r : List UInt8) (h : 62 ∉ a) : cutS [62] (a ++ 62 :: r) = some r := by
  induction a with
  | nil => simp [cutS, pre]
  | cons c a ih =>
    simp only [List.mem_cons, not_or] at h
    rw [List.cons_append]; unfold cutS
    rw [if_neg (by simp [pre]; exact fun e => h.1 e), ih h.2]
theorem tagP_close (n r : List UInt8) (hn : isNm n = true) : tagP (47 :: n ++ 62 :: r) = some (some (some (3, n, [], []), r)) := by
  obtain ⟨c, m, rfl, hc, hm, _⟩ := isNm_cons hn
  have hall : (c :: m).all tch = true := all_imp (isNm_all hn) fun c h => (nmc_facts h).2.2.2.1
  have h1 := tw_app tch (c :: m) 62 r hall (by decide)
  simp only [List.cons_append] at h1 ⊢
  rw [tagP_cons, if_neg (by decide), if_pos ⟨rfl, by simp [ltr_lwr hc]⟩, h1.1, h1.2]
  have := cutS_62 [] r (by simp)
  simp only [List.nil_append] at this
  rw [this, fold_nm (isNm_all hn)]; rfl
theorem put_no60 (v : List UInt8) : 60 ∉ PutL v := fun h => (PutL_no v 60 h).1 rfl
theorem flsh_put (x : List UInt8) (hx : x ≠ []) (out : List Tok) : flsh (PutL x) out = out ++ [(1, [], [], x)] := by
  unfold flsh; rw [Tk_put]; rw [if_neg hx]
theorem flsh_nil (out : List Tok) : flsh [] out = out := by unfold flsh; rw [Tk_nil]; rfl
theorem tkE_cases {t : Tok} (h : tkE t = 0) : (∃ x, x ≠ [] ∧ t = (1, [], [], x)) ∨ (∃ n al, isNm n = true ∧ atE al = 0 ∧ t = (2, n, al, [])) ∨ (∃ n, isNm n = true ∧ t = (3, n, [], [])) := by
  obtain ⟨k, n, al, x⟩ := t
  unfold tkE at h
  simp only [] at h
  split at h
  · simp at h
  rename_i h1
  split at h
  · simp at h
  rename_i h2
  simp only [not_or, not_and, Decidable.not_not, ne_eq] at h2
  obtain ⟨h2, h3, h4⟩ := h2
  split at h
  · rename_i h5
    subst h5
    obtain ⟨rfl, rfl, hx⟩ := h2 rfl
    exact Or.inl ⟨x, hx, rfl⟩
  rename_i h5
  have hx := h3 h5
  split at h
  · simp at h
  rename_i h6
  have h6 : isNm n = true := by simpa using h6
  have : k = 2 ∨ k = 3 := by omega
  rcases this with rfl | rfl
  · exact Or.inr (Or.inl ⟨n, al, h6, h, by rw [hx]⟩)
  · exact Or.inr (Or.inr ⟨n, h6, by rw [hx, h4 rfl]⟩)
/-- WHAT IS PRINTED IS READ AS IT WAS. -/
theorem tk_written (l : List Tok) : ∀ (k : Int) (text : List UInt8) (out : List Tok), tkEF k l = 0 → (text = [] ∨ k = 1 ∧ ∃ x, x ≠ [] ∧ text = PutL x) → tkP (tksW l) text out = flsh text out ++ l := by
  induction l with
  | nil => intro k text out _ _; rw [List.append_nil]; rfl
  | cons t l ih =>
    intro k text out h ht
    unfold tkEF at h
    by_cases he : tkE t = 0
    · simp only [he, ne_eq, not_true, if_false] at h
      by_cases hk : t.1 = 1 ∧ k = 1
      · rw [if_pos hk] at h; simp at h
      · rw [if_neg hk] at h
        have e : tksW (t :: l) = tkW t ++ tksW l := by simp [tksW]
        rw [e]
        rcases tkE_cases he with ⟨x, hx, rfl⟩ | ⟨n, al, hn, ha, rfl⟩ | ⟨n, hn, rfl⟩
        · rcases ht with rfl | ⟨rfl, _⟩
          · rw [show tkW (1, [], [], x) = PutL x from rfl, tkP_run _ _ _ _ (put_no60 x), List.nil_append, ih 1 _ _ h (Or.inr ⟨rfl, x, hx, rfl⟩), flsh_put x hx, flsh_nil]; simp
          · exact absurd ⟨rfl, rfl⟩ hk
        · have e2 : tkW (2, n, al, []) ++ tksW l = 60 :: (n ++ atW al ++ 62 :: tksW l) := by simp [tkW]
          rw [e2, tkP_tag _ _ _ _ _ (tagP_open n al _ hn ha) hn, ih 2 _ _ h (Or.inl rfl), flsh_nil]; simp
        · have e2 : tkW (3, n, [], []) ++ tksW l = 60 :: (47 :: n ++ 62 :: tksW l) := by simp [tkW]
          rw [e2, tkP_tag _ _ _ _ _ (tagP_close n _ hn) hn, ih 3 _ _ h (Or.inl rfl), flsh_nil]; simp
    · simp only [he, ne_eq, not_false_eq_true, if_true] at h
theorem TokL_written (l : List Tok) (h : ckE l = 0) : TokL (tksW l) = l := by
  unfold ckE at h
  split at h
  · simp at h
  · have := tk_written l 0 [] [] h (Or.inl rfl)
    rw [flsh_nil] at this; exact this

/-- Tokens that are right, the last of which is none of text. -/
def lastK (l : List Tok) : Int := match l.getLast? with | some t => t.1 | none => 0
theorem lastK_snoc (l : List Tok) (t : Tok) : lastK (l ++ [t]) = t.1 := by simp [lastK]
theorem tkEF_snoc (l : List Tok) (t : Tok) : ∀ k : Int, tkEF k l = 0 → tkE t = 0 → ¬(t.1 = 1 ∧ (if l = [] then k else lastK l) = 1) → tkEF k (l ++ [t]) = 0 := by
  induction l with
  | nil =>
    intro k _ ht hk
    simp only [List.nil_append, tkEF, ht, ne_eq, not_true, if_false]
    rw [if_pos rfl] at hk
    rw [if_neg hk]
  | cons a l ih =>
    intro k h ht hk
    simp only [List.cons_append]
    unfold tkEF at h ⊢
    by_cases he : tkE a = 0
    · simp only [he, ne_eq, not_true, if_false] at h ⊢
      by_cases hk2 : a.1 = 1 ∧ k = 1
      · rw [if_pos hk2] at h; simp at h
      · rw [if_neg hk2] at h ⊢
        refine ih a.1 h ht ?_
        rw [if_neg (by simp)] at hk
        rintro ⟨h1, h2⟩
        refine hk ⟨h1, ?_⟩
        cases l with
        | nil => simpa [lastK] using h2
        | cons b l => rw [if_neg (by simp)] at h2; simpa [lastK] using h2
    · simp only [he, ne_eq, not_false_eq_true, if_true] at h
/-- What has been read so far. -/
def okT (l : List Tok) : Prop := tkEF 0 l = 0 ∧ (l = [] ∨ lastK l ≠ 1)
theorem okT_flsh {l : List Tok} (h : okT l) (x : List UInt8) : tkEF 0 (flsh x l) = 0 := by
  unfold flsh
  split
  · exact h.1
  · rename_i hx
    refine tkEF_snoc l _ 0 h.1 (by simp [tkE, hx]) ?_
    rintro ⟨_, h2⟩
    split at h2
    · exact absurd h2 (by decide)
    · rcases h.2 with h3 | h3
      · contradiction
      · exact h3 h2
theorem okT_tag {l : List Tok} (h : okT l) (x : List UInt8) (t : Tok) (ht : tkE t = 0) (hk : t.1 ≠ 1) : okT (flsh x l ++ [t]) :=
  ⟨tkEF_snoc _ _ 0 (okT_flsh h x) ht (fun hh => hk hh.1), Or.inr (by rw [lastK_snoc]; exact hk)⟩
theorem atEF_snoc (l : List Atr) (a : Atr) (ha : isNm a.1 = true) : ∀ p : List Atr, atEF p l = 0 → ((p ++ l).any fun x => x.1 == a.1) = false → atEF p (l ++ [a]) = 0 := by
  induction l with
  | nil =>
    intro p _ hd
    rw [List.append_nil] at hd
    simp only [List.nil_append, atEF, ha, Bool.true_eq_false, if_false, hd, Bool.false_eq_true]
  | cons b l ih =>
    intro p h hd
    obtain ⟨h1, h2, h3⟩ := atEF_cons h
    simp only [List.cons_append]
    unfold atEF
    rw [h1, h2]
    simp only [Bool.true_eq_false, if_false, Bool.false_eq_true]
    exact ih _ h3 (by rw [List.append_assoc]; simpa using hd)
theorem addA_ok {out : List Atr} (h : atE out = 0) (a : Atr) : atE (addA out a) = 0 := by
  unfold addA
  split
  · rename_i hh
    simp only [Bool.and_eq_true, Bool.not_eq_true'] at hh
    exact atEF_snoc out a hh.1 [] h (by simpa using hh.2)
  · exact h
theorem atF_ok (k : Nat) : ∀ (t : List UInt8) (out l : List Atr) (r : List UInt8), atE out = 0 → atF k t out = some (l, r) → atE l = 0 := by
  induction k with
  | zero => intro t out l r _ h; simp [atF] at h
  | succ k ih =>
    intro t out l r ho h
    unfold atF at h
    split at h
    · cases h
    · split at h
      · simp only [Option.some.injEq, Prod.mk.injEq] at h; obtain ⟨rfl, _⟩ := h; exact ho
      · split at h
        · cases h
        · exact ih _ _ _ _ (addA_ok ho _) h
theorem tagP_ok (r u : List UInt8) (t : Tok) (h : tagP r = some (some (some t, u))) (hn : isNm t.2.1 = true) : tkE t = 0 ∧ t.1 ≠ 1 := by
  unfold tagP at h
  split at h
  · cases h
  · rename_i c s
    split at h
    · cases e : atP ((c :: s).dropWhile tch) [] with
      | none => rw [e] at h; simp at h
      | some x =>
        rw [e] at h
        simp only [Option.map_some, Option.some.injEq, Prod.mk.injEq] at h
        obtain ⟨rfl, _⟩ := h
        have ha := atF_ok _ _ [] x.1 x.2 rfl e
        simp only [] at hn
        refine ⟨?_, by simp⟩
        simp [tkE, hn, ha]
    split at h
    · cases e : cutS [62] (s.dropWhile tch) with
      | none => rw [e] at h; simp at h
      | some x =>
        rw [e] at h
        simp only [Option.map_some, Option.some.injEq, Prod.mk.injEq] at h
        obtain ⟨rfl, _⟩ := h
        simp only [] at hn
        refine ⟨?_, by simp⟩
        simp [tkE, hn, atE, atEF]
    split at h
    · cases e : cutS [45, 45, 62] s with
      | none => rw [e] at h; simp at h
      | some x => rw [e] at h; simp at h
    split at h
    · cases e : cutS [62] (c :: s) with
      | none => rw [e] at h; simp at h
      | some x => rw [e] at h; simp at h
    · cases h
theorem flsh_len (x : List UInt8) (l : List Tok) : (flsh x l).length ≤ l.length + (if x = [] then 0 else 1) := by
  unfold flsh
  by_cases hx : x = []
  · subst hx; simp [Tk_nil]
  · rw [if_neg hx]; split <;> simp
/-- WHAT IS READ IS RIGHT; of no more tokens than the text has bytes. -/
theorem tkF_right (k : Nat) : ∀ (s text : List UInt8) (out : List Tok), s.length ≤ k → okT out → tkEF 0 (tkF k s text out) = 0 ∧ (tkF k s text out).length ≤ out.length + (if text = [] then 0 else 1) + s.length := by
  induction k with
  | zero => intro s text out hs h; exact ⟨okT_flsh h text, by have := flsh_len text out; simp only [tkF]; omega⟩
  | succ k ih =>
    intro s text out hs h
    cases s with
    | nil => exact ⟨okT_flsh h text, by have := flsh_len text out; simp only [tkF]; omega⟩
    | cons c r =>
      simp only [List.length_cons, Nat.add_le_add_iff_right] at hs ⊢
      have h01 : (if text = [] then 0 else 1) ≤ 1 := by split <;> omega
      unfold tkF
      split
      · split
        · have := ih r (text ++ [60]) out hs h
          rw [if_neg (by simp)] at this
          exact ⟨this.1, by omega⟩
        · refine ⟨okT_flsh h _, ?_⟩
          have := flsh_len (text ++ 60 :: r) out
          rw [if_neg (by simp)] at this; omega
        · rename_i u e
          have hl := tagP_len _ _ _ e
          have := ih u text out (by omega) h
          exact ⟨this.1, by omega⟩
        · rename_i t u e
          have hl := tagP_len _ _ _ e
          split
          · rename_i hn
            have ht := tagP_ok _ _ _ e hn
            have h1 := ih u [] _ (by omega) (okT_tag h text t ht.1 ht.2)
            have h2 := flsh_len text out
            rw [if_pos rfl] at h1
            simp only [List.length_append, List.length_singleton] at h1
            exact ⟨h1.1, by omega⟩
          · have := ih u text out (by omega) h
            exact ⟨this.1, by omega⟩
      · have := ih r (text ++ [c]) out hs h
        rw [if_neg (by simp)] at this
        exact ⟨this.1, by omega⟩
theorem TokL_right (s : List UInt8) : tkEF 0 (TokL s) = 0 ∧ (TokL s).length ≤ s.length := by
  have := tkF_right s.length s [] [] (Nat.le_refl _) ⟨rfl, Or.inl rfl⟩
  simpa [TokL, tkP] using this
theorem TokL_ck (s : List UInt8) (h : s.length ≤ 3000) : ckE (TokL s) = 0 := by
  have := TokL_right s
  unfold ckE; rw [if_neg (by omega)]; exact this.1

/-- TokenPlain: text without < and & is a text by itself; a comment behind it is nothing. -/
def txtL (s : List UInt8) : List Tok := if s = [] then [] else [(1, [], [], s)]
theorem flsh_txt (s : List UInt8) (h38 : 38 ∉ s) : flsh s [] = txtL s := by
  unfold flsh txtL; rw [Tk_none s h38]; rfl
theorem TokL_run (s r : List UInt8) (h60 : 60 ∉ s) : TokL (s ++ r) = tkP r s [] := by
  unfold TokL; rw [tkP_run s r [] [] h60]; rfl
theorem plain1 (s : List UInt8) (h60 : 60 ∉ s) (h38 : 38 ∉ s) : TokL s = txtL s := by
  have := TokL_run s [] h60
  rw [List.append_nil] at this
  rw [this, tkP_nil, flsh_txt s h38]
theorem cutS_com (c : List UInt8) (h : 62 ∉ c) : ∀ _p : List UInt8, cutS [45, 45, 62] (c ++ [45, 45, 62]) = some [] := by
  intro _
  induction c with
  | nil => decide
  | cons x c ih =>
    simp only [List.mem_cons, not_or] at h
    rw [List.cons_append]; unfold cutS
    rw [ih h.2]
    split
    · rename_i hp
      exfalso
      match c, h with
      | [], _ => simp [pre] at hp
      | [a], h => simp [pre] at hp
      | a :: b :: c, h =>
        simp only [List.mem_cons, not_or] at h
        simp only [pre, List.cons_append, List.isPrefixOf, Bool.and_eq_true, beq_iff_eq] at hp
        exact h.2.2.1 hp.2.2.1
    · rfl
theorem plain2 (s c : List UInt8) (h60 : 60 ∉ s) (h38 : 38 ∉ s) (hc : 62 ∉ c) : TokL (s ++ [60, 33, 45, 45] ++ c ++ [45, 45, 62]) = txtL s := by
  have e : tagP (33 :: 45 :: 45 :: (c ++ [45, 45, 62])) = some (some (none, [])) := by
    rw [tagP_cons, if_neg (by decide), if_neg (by rintro ⟨h, _⟩; exact absurd h (by decide)), if_pos (by simp [pre])]
    have := cutS_com (45 :: 45 :: c) (by simp only [List.mem_cons, not_or]; exact ⟨by decide, by decide, hc⟩) []
    simp only [List.cons_append] at this
    rw [this]; rfl
  have e2 : s ++ [60, 33, 45, 45] ++ c ++ [45, 45, 62] = s ++ 60 :: (33 :: 45 :: 45 :: (c ++ [45, 45, 62])) := by simp
  rw [e2, TokL_run _ _ h60, tkP_skip _ _ _ _ e, tkP_nil, flsh_txt s h38]
theorem plain3 (s c : List UInt8) (h60 : 60 ∉ s) (h38 : 38 ∉ s) (hc : 62 ∉ c) : TokL ([60, 63] ++ c ++ [62] ++ s) = txtL s := by
  have e : tagP (63 :: (c ++ 62 :: s)) = some (some (none, s)) := by
    rw [tagP_cons, if_neg (by decide), if_neg (by rintro ⟨h, _⟩; exact absurd h (by decide)), if_neg (by simp [pre]), if_pos (by decide)]
    have := cutS_62 (63 :: c) s (by simp only [List.mem_cons, not_or]; exact ⟨by decide, hc⟩)
    simp only [List.cons_append] at this
    rw [this]; rfl
  have e2 : [60, 63] ++ c ++ [62] ++ s = 60 :: (63 :: (c ++ 62 :: s)) := by simp
  rw [e2]
  unfold TokL
  rw [tkP_skip _ _ _ _ e]
  have := tkP_run s [] [] [] h60
  rw [List.append_nil] at this
  rw [this, tkP_nil, List.nil_append, flsh_txt s h38]

/-- TokenTag. -/
def tagL (v : List UInt8) : List Tok := [(2, [120], [([107], v), ([98], [])], [])]
theorem valOf_q (q : UInt8) (v r : List UInt8) (hq : q = 34 ∨ q = 39) (hv : v.all (· != q) = true) : valOf (q :: v ++ q :: r) = some (v, r) := by
  have h := tw_app (· != q) v q r hv (by simp)
  have hw : wht q = false := by rcases hq with rfl | rfl <;> decide
  unfold valOf
  rw [List.cons_append, List.dropWhile_cons_of_neg (by simp [hw])]
  simp only [hq, if_true, h.1, h.2]
theorem valOf_sp (r : List UInt8) : valOf (32 :: r) = valOf r := by
  unfold valOf; rw [List.dropWhile_cons_of_pos (by decide)]
theorem one_k (q : UInt8) (v r : List UInt8) (hq : q = 34 ∨ q = 39) (hv : (PutL v).all (· != q) = true) : oneAt 107 (61 :: q :: PutL v ++ q :: r) = some (([107], v), r) := by
  unfold oneAt
  rw [List.cons_append, List.dropWhile_cons_of_neg (by decide), List.dropWhile_cons_of_neg (by decide), List.takeWhile_cons_of_neg (by decide)]
  simp only [if_true, valOf_q q (PutL v) r hq hv, Tk_put]
  rfl
theorem one_K (v r : List UInt8) : oneAt 75 (32 :: 61 :: 32 :: 34 :: PutL v ++ 34 :: r) = some (([107], v), r) := by
  unfold oneAt
  simp only [List.cons_append]
  rw [List.dropWhile_cons_of_neg (by decide), List.dropWhile_cons_of_pos (by decide), List.dropWhile_cons_of_neg (by decide), List.takeWhile_cons_of_neg (by decide)]
  have h := valOf_q 34 (PutL v) r (Or.inl rfl) (put_no34 v)
  rw [List.cons_append] at h
  simp only [if_true, valOf_sp, h, Tk_put]
  rfl
theorem addA_k (v : List UInt8) : addA [] ([107], v) = [([107], v)] := by simp [addA, isNm, lwr]
theorem addA_b (v : List UInt8) : addA [([107], v)] ([98], []) = [([107], v), ([98], [])] := by simp [addA, isNm, lwr]
theorem atP_b (v r : List UInt8) : atP (32 :: 98 :: 62 :: r) [([107], v)] = some ([([107], v), ([98], [])], r) := by
  have h1 : oneAt 98 (62 :: r) = some (([98], []), 62 :: r) := by
    unfold oneAt
    rw [List.dropWhile_cons_of_neg (by decide), List.dropWhile_cons_of_neg (by decide), List.takeWhile_cons_of_neg (by decide)]
    rfl
  rw [atP_go (c := 98) (r := 62 :: r) (by rw [List.dropWhile_cons_of_pos (by decide), List.dropWhile_cons_of_neg (by decide)]) (by decide) h1, atP_end (r := r) (by rw [List.dropWhile_cons_of_neg (by decide)]), addA_b]
theorem atP_B (v r : List UInt8) : atP (32 :: 66 :: 47 :: 62 :: r) [([107], v)] = some ([([107], v), ([98], [])], r) := by
  have h1 : oneAt 66 (47 :: 62 :: r) = some (([98], []), 47 :: 62 :: r) := by
    unfold oneAt
    rw [List.dropWhile_cons_of_neg (by decide), List.dropWhile_cons_of_neg (by decide), List.takeWhile_cons_of_neg (by decide)]
    rfl
  rw [atP_go (c := 66) (r := 47 :: 62 :: r) (by rw [List.dropWhile_cons_of_pos (by decide), List.dropWhile_cons_of_neg (by decide)]) (by decide) h1, atP_end (r := r) (by rw [List.dropWhile_cons_of_pos (by decide), List.dropWhile_cons_of_neg (by decide)]), addA_b]
theorem atP_bq (v r : List UInt8) : atP (32 :: 98 :: 61 :: 39 :: 39 :: 62 :: r) [([107], v)] = some ([([107], v), ([98], [])], r) := by
  have h0 := valOf_q 39 [] (62 :: r) (Or.inr rfl) rfl
  rw [List.cons_append, List.nil_append] at h0
  have h1 : oneAt 98 (61 :: 39 :: 39 :: 62 :: r) = some (([98], []), 62 :: r) := by
    unfold oneAt
    rw [List.dropWhile_cons_of_neg (by decide), List.dropWhile_cons_of_neg (by decide), List.takeWhile_cons_of_neg (by decide)]
    simp only [if_true, h0, Tk_nil]
    rfl
  rw [atP_go (c := 98) (r := 61 :: 39 :: 39 :: 62 :: r) (by rw [List.dropWhile_cons_of_pos (by decide), List.dropWhile_cons_of_neg (by decide)]) (by decide) h1, atP_end (r := r) (by rw [List.dropWhile_cons_of_neg (by decide)]), addA_b]
theorem TokL_tag (c : UInt8) (t : List UInt8) (al : List Atr) (hc : ltr c = true) (hf : fld c = 120) (h : atP (32 :: t) [] = some (al, [])) : TokL (60 :: c :: 32 :: t) = [(2, [120], al, [])] := by
  have hw : tch c = true := by
    have : (97 ≤ c.toNat ∧ c.toNat ≤ 122) ∨ (65 ≤ c.toNat ∧ c.toNat ≤ 90) := by
      simp only [ltr, lwr, Bool.or_eq_true, Bool.and_eq_true, decide_eq_true_eq] at hc; omega
    simp [tch, wht]; omega
  have e : tagP (c :: 32 :: t) = some (some (some (2, [120], al, []), [])) := by
    rw [tagP_cons, if_pos hc, List.dropWhile_cons_of_pos hw, List.dropWhile_cons_of_neg (by decide), List.takeWhile_cons_of_pos hw, List.takeWhile_cons_of_neg (by decide), h]
    simp [fold, hf]
  unfold TokL
  rw [tkP_tag _ _ _ _ _ e (show isNm [120] = true by decide), tkP_nil, flsh_nil, flsh_nil]; rfl
theorem tag1 (v : List UInt8) : TokL ([60, 120, 32, 107, 61, 34] ++ PutL v ++ [34, 32, 98, 62]) = tagL v := by
  have h := one_k 34 v (32 :: 98 :: 62 :: []) (Or.inl rfl) (put_no34 v)
  have e : [60, 120, 32, 107, 61, 34] ++ PutL v ++ [34, 32, 98, 62] = 60 :: 120 :: 32 :: 107 :: (61 :: 34 :: PutL v ++ 34 :: (32 :: 98 :: 62 :: [])) := by simp
  rw [e]
  refine TokL_tag 120 _ _ (by decide) (by decide) ?_
  rw [atP_go (c := 107) (by rw [List.dropWhile_cons_of_pos (by decide), List.dropWhile_cons_of_neg (by decide)]) (by decide) h, addA_k, atP_b]
theorem tag2 (v : List UInt8) : TokL ([60, 88, 32, 32, 75, 32, 61, 32, 34] ++ PutL v ++ [34, 32, 66, 47, 62]) = tagL v := by
  have h := one_K v (32 :: 66 :: 47 :: 62 :: [])
  have e : [60, 88, 32, 32, 75, 32, 61, 32, 34] ++ PutL v ++ [34, 32, 66, 47, 62] = 60 :: 88 :: 32 :: 32 :: 75 :: (32 :: 61 :: 32 :: 34 :: PutL v ++ 34 :: (32 :: 66 :: 47 :: 62 :: [])) := by simp
  rw [e]
  refine TokL_tag 88 _ _ (by decide) (by decide) ?_
  rw [atP_go (c := 75) (by rw [List.dropWhile_cons_of_pos (by decide), List.dropWhile_cons_of_pos (by decide), List.dropWhile_cons_of_neg (by decide)]) (by decide) h, addA_k, atP_B]
theorem tag3 (v : List UInt8) (h39 : (PutL v).all (· != 39) = true) : TokL ([60, 120, 32, 107, 61, 39] ++ PutL v ++ [39, 32, 98, 61, 39, 39, 62]) = tagL v := by
  have h := one_k 39 v (32 :: 98 :: 61 :: 39 :: 39 :: 62 :: []) (Or.inr rfl) h39
  have e : [60, 120, 32, 107, 61, 39] ++ PutL v ++ [39, 32, 98, 61, 39, 39, 62] = 60 :: 120 :: 32 :: 107 :: (61 :: 39 :: PutL v ++ 39 :: (32 :: 98 :: 61 :: 39 :: 39 :: 62 :: [])) := by simp
  rw [e]
  refine TokL_tag 120 _ _ (by decide) (by decide) ?_
  rw [atP_go (c := 107) (by rw [List.dropWhile_cons_of_pos (by decide), List.dropWhile_cons_of_neg (by decide)]) (by decide) h, addA_k, atP_bq]
end Go.Proofs.YtkacjnifhmgeiaaGreatDoor

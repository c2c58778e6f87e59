/- WebOf of the reference: what it answers, said by a plain function. -/
import Derived.Test.YtkmndlnhpegdgaaDoorDateTime
namespace Go.Proofs.YtkmndlnhpegdgaaDoor
open Go.RowKit

theorem FC_dig (c : Int) : (FC c 100 = true) ↔ 48 ≤ c ∧ c ≤ 57 := by
  unfold FC Dg
  simp only [if_true, decide_eq_true_eq]
  (repeat' split) <;> omega

def webForm : List UInt8 := [100, 100, 100, 100, 45, 100, 100, 45, 100, 100, 84, 100, 100, 58, 100, 100, 58, 100, 100]
def plusForm : List UInt8 := [43, 100, 100, 58, 100, 100]
def minusForm : List UInt8 := [45, 100, 100, 58, 100, 100]
def plusMail : List UInt8 := [43, 100, 100, 100, 100]
def minusMail : List UInt8 := [45, 100, 100, 100, 100]

theorem Form_length {l f : List UInt8} (h : Form l f = true) : l.length = f.length := by
  by_cases hl : l.length = f.length
  · exact hl
  · rw [Form_len l f hl] at h; cases h

theorem web_facts (l : List UInt8) (h : 20 ≤ l.length) (hF : Form (l.take 19) webForm = true) :
    digs (l.take 4) ∧ digs ((l.drop 5).take 2) ∧ digs ((l.drop 8).take 2) ∧ digs (((l.drop 11).take 8).take 2) ∧ digs ((((l.drop 11).take 8).drop 3).take 2) ∧ digs (((l.drop 11).take 8).drop 6) := by
  obtain ⟨c0, l0, rfl, h0⟩ := ucons h
  obtain ⟨c1, l1, rfl, h1⟩ := ucons h0
  obtain ⟨c2, l2, rfl, h2⟩ := ucons h1
  obtain ⟨c3, l3, rfl, h3⟩ := ucons h2
  obtain ⟨c4, l4, rfl, h4⟩ := ucons h3
  obtain ⟨c5, l5, rfl, h5⟩ := ucons h4
  obtain ⟨c6, l6, rfl, h6⟩ := ucons h5
  obtain ⟨c7, l7, rfl, h7⟩ := ucons h6
  obtain ⟨c8, l8, rfl, h8⟩ := ucons h7
  obtain ⟨c9, l9, rfl, h9⟩ := ucons h8
  obtain ⟨c10, l10, rfl, h10⟩ := ucons h9
  obtain ⟨c11, l11, rfl, h11⟩ := ucons h10
  obtain ⟨c12, l12, rfl, h12⟩ := ucons h11
  obtain ⟨c13, l13, rfl, h13⟩ := ucons h12
  obtain ⟨c14, l14, rfl, h14⟩ := ucons h13
  obtain ⟨c15, l15, rfl, h15⟩ := ucons h14
  obtain ⟨c16, l16, rfl, h16⟩ := ucons h15
  obtain ⟨c17, l17, rfl, h17⟩ := ucons h16
  obtain ⟨c18, l18, rfl, h18⟩ := ucons h17
  obtain ⟨c19, l19, rfl, h19⟩ := ucons h18
  simp only [List.take_succ_cons, List.take_zero, webForm, Form, Bool.and_eq_true, show ((100 : UInt8).toNat : Int) = 100 from rfl, FC_dig] at hF
  simp [digs]
  omega
theorem zone_facts (z f : List UInt8) (hf : f = plusForm ∨ f = minusForm) (hF : Form z f = true) : digs ((z.drop 1).take 2) ∧ digs (z.drop 4) := by
  have hl := Form_length hF
  rcases hf with rfl | rfl
  all_goals
    match z, hl with
    | [c0, c1, c2, c3, c4, c5], _ =>
      simp only [plusForm, minusForm, Form, Bool.and_eq_true, show ((100 : UInt8).toNat : Int) = 100 from rfl, FC_dig] at hF
      simp [digs]
      omega
theorem zone_mail (z f : List UInt8) (hf : f = plusMail ∨ f = minusMail) (hF : Form z f = true) : digs ((z.drop 1).take 2) ∧ digs (z.drop 3) := by
  have hl := Form_length hF
  rcases hf with rfl | rfl
  all_goals
    match z, hl with
    | [c0, c1, c2, c3, c4], _ =>
      simp only [plusMail, minusMail, Form, Bool.and_eq_true, show ((100 : UInt8).toNat : Int) = 100 from rfl, FC_dig] at hF
      simp [digs]
      omega

def ZoneV (z : List UInt8) : Int := ZV (z[0]?.getD 0).toNat (Num ((z.drop 1).take 2)) (Num (z.drop 4))
def ZoneB (z : List UInt8) : Bool := decide (Num ((z.drop 1).take 2) ≤ 23) && decide (Num (z.drop 4) ≤ 59)
def WebZ (z : List UInt8) : Int × Bool := if Form z plusForm = true ∨ Form z minusForm = true then (ZoneV z, ZoneB z) else (0, z == [90])
def errForm : Ending := .returned (.tuple #[.int .i64 0, .int .i64 1])
def WebT (l : List UInt8) : Ending :=
  if l.length < 20 ∨ Form (l.take 19) webForm = false then errForm
  else if (WebZ (l.drop 19)).2 = false then errForm
  else TimeT (Num (l.take 4)) (Num ((l.drop 5).take 2)) (Num ((l.drop 8).take 2)) (Num (((l.drop 11).take 8).take 2)) (Num ((((l.drop 11).take 8).drop 3).take 2)) (Num (((l.drop 11).take 8).drop 6)) (WebZ (l.drop 19)).1

theorem zone_bd (z : List UInt8) (h : digs ((z.drop 1).take 2)) (h1 : digs (z.drop 4)) (h2 : z.length = 6) (hb : ZoneB z = true) : -1440 ≤ ZoneV z ∧ ZoneV z ≤ 1440 := by
  have b1 := Num_bd _ h (by simp; omega)
  have b2 := Num_bd _ h1 (by simp; omega)
  simp only [ZoneB, Bool.and_eq_true, decide_eq_true_eq] at hb
  unfold ZoneV ZV; split <;> omega

set_option maxRecDepth 100000 in
set_option maxHeartbeats 1000000 in
theorem webOf_c (l : List UInt8) (hl : l.length ≤ 9223372036854775807) (w : World) :
    Calls Tryd.prog 10 #[.string ⟨l.toArray⟩] w fun e w' => e = WebT l ∧ Qt w w' := by
  by_cases h20 : l.length < 20
  · go_enter Tryd.func10, Tryd.ntmps10
    go_wp2_with fail
    go_ret2
    exact ⟨by simp [WebT, h20, errForm], Qt.refl _⟩
  cases hF : Form (l.take 19) webForm
  · have HF := Lib.hid hF
    have h20' : (20 : Int) ≤ l.length := by omega
    have i1 : (19 : Int) ≤ l.length := by omega
    have hF' : Form (List.take 19 l) [100, 100, 100, 100, 45, 100, 100, 45, 100, 100, 84, 100, 100, 58, 100, 100, 58, 100, 100] = false := hF
    clear hF
    go_enter Tryd.func10, Tryd.ntmps10
    go_wp2_with (go_at_call 25; refine (form_c _ _ (by simp; omega) _).mono ?_; rintro e w' ⟨rfl, n, rfl⟩)
    go_ret2
    exact ⟨by simp [WebT, HF.out, errForm], _, rfl⟩
  obtain ⟨f1, f2, f3, f4, f5, f6⟩ := web_facts l (by omega) hF
  have b1 := Num_4 _ f1 (by simp; omega)
  have b2 := Num_2 _ f2 (by simp; omega)
  have b3 := Num_2 _ f3 (by simp; omega)
  have HF := Lib.hid hF
  have hF' : Form (List.take 19 l) [100, 100, 100, 100, 45, 100, 100, 45, 100, 100, 84, 100, 100, 58, 100, 100, 58, 100, 100] = true := hF
  have h20' : (20 : Int) ≤ l.length := by omega
  have i1 : (19 : Int) ≤ l.length := by omega
  have i2 : (4 : Int) ≤ l.length := by omega
  have i3 : (7 : Int) ≤ l.length := by omega
  have i4 : (10 : Int) ≤ l.length := by omega
  by_cases hz : Form (l.drop 19) plusForm = true ∨ Form (l.drop 19) minusForm = true
  · have HZ := Lib.hid (show WebZ (l.drop 19) = (ZoneV (l.drop 19), ZoneB (l.drop 19)) from if_pos hz)
    obtain ⟨g1, g2⟩ : digs (((l.drop 19).drop 1).take 2) ∧ digs ((l.drop 19).drop 4) := hz.elim (fun h => zone_facts _ _ (Or.inl rfl) h) (fun h => zone_facts _ _ (Or.inr rfl) h)
    have hl6 : (l.drop 19).length = 6 := hz.elim (fun h => Form_length h) (fun h => Form_length h)
    have zb := Lib.hid (zone_bd _ g1 g2 hl6)
    have hl25 : l.length = 25 := by simp at hl6; omega
    have HL := Lib.hid hl25
    have i5 : (25 : Int) ≤ l.length := by omega
    have i6 : 25 ≤ l.length := by omega
    have i7 : l.length ≤ 25 := by omega
    have j8 : 0 < l.length - 19 := by omega
    have j9 : 3 ≤ l.length - 19 := by omega
    have j10 : 4 ≤ l.length - 19 := by omega
    have i8 : (0 : Int) < ((l.length - 19 : Nat) : Int) := by omega
    have i9 : (3 : Int) ≤ ((l.length - 19 : Nat) : Int) := by omega
    have i10 : (4 : Int) ≤ ((l.length - 19 : Nat) : Int) := by omega
    clear hl25 hl6
    simp only [List.drop_drop, Nat.reduceAdd] at g1 g2
    by_cases hp : Form (l.drop 19) plusForm = true
    all_goals
      have hm : ¬ Form (l.drop 19) plusForm = true → Form (List.drop 19 l) [45, 100, 100, 58, 100, 100] = true := fun h => by simpa [h, minusForm] using hz
      try have hm' := hm hp
      try simp only [Bool.not_eq_true] at hp
      clear hz hF hm
      have hb := u8_lt (l[19]'(by omega))
      rw [plusForm] at hp
      have hZV := Lib.hid (show ZoneV (l.drop 19) = ZV (l[19]'(by omega)).toNat (Num (List.take 2 (List.drop 20 l))) (Num (List.drop 23 l)) by simp [ZoneV, show l[19]? = some (l[19]'(by omega)) from List.getElem?_eq_getElem _])
      have hZB := Lib.hid (show ZoneB (l.drop 19) = (decide (Num (List.take 2 (List.drop 20 l)) ≤ 23) && decide (Num (List.drop 23 l) ≤ 59)) by simp [ZoneB])
      by_cases hb2 : ZoneB (l.drop 19) = true
    all_goals
      have HB := Lib.hid hb2
      rw [hZB.out] at hb2
      try simp only [Bool.not_eq_true] at hb2
      try (have zb' := zb.out HB.out; rw [hZV.out] at zb')
      go_enter Tryd.func10, Tryd.ntmps10
      go_wp2_with (first | (go_at_call 25; refine (form_c _ _ (by simp; omega) _).mono ?_; rintro e w' ⟨rfl, n, rfl⟩) | (go_quiet ((first | (go_at_call 26; (first | exact quiet_eq (zoneOf_c _ _ _ (by omega) (by omega) (by assumption) (by assumption) (by simp <;> omega) (by simp <;> omega) _) | exact quiet_eq2 (zoneOf_c _ _ _ (by omega) (by omega) (by assumption) (by assumption) (by simp <;> omega) (by simp <;> omega) _))) | (go_at_call 28; (first | exact quiet_eq (number_c _ (by assumption) (by simp <;> omega) _) | exact quiet_eq2 (number_c _ (by assumption) (by simp <;> omega) _))) | (go_at_call 27; (first | exact quiet_qt (timeOf_i _ _ _ _ _ (by omega) (by omega) (by omega) (by omega) (by omega) (by omega) (by omega) (by omega) (by simp <;> omega) (by assumption) (by assumption) (by assumption) _) | exact quiet_qt2 (timeOf_i _ _ _ _ _ (by omega) (by omega) (by omega) (by omega) (by omega) (by omega) (by omega) (by omega) (by simp <;> omega) (by assumption) (by assumption) (by assumption) _)))))))
      go_ret2
      refine ⟨?_, by simp only [Qt, World.drewN_drewN]; exact ⟨_, rfl⟩⟩
      first
        | (simp [WebT, HF.out, errForm, HZ.out, HB.out]; done)
        | (simp [WebT, HF.out, h20, HZ.out, HB.out, hZV.out]; rfl)
  · try clear hF'
    have hF' : Form (List.take 19 l) [100, 100, 100, 100, 45, 100, 100, 45, 100, 100, 84, 100, 100, 58, 100, 100, 58, 100, 100] = true := HF.out
    have hp : Form (List.drop 19 l) [43, 100, 100, 58, 100, 100] = false := by simpa [plusForm] using fun h => hz (Or.inl h)
    have hm : Form (List.drop 19 l) [45, 100, 100, 58, 100, 100] = false := by simpa [minusForm] using fun h => hz (Or.inr h)
    have HZ := Lib.hid (show WebZ (l.drop 19) = (0, l.drop 19 == [90]) from if_neg hz)
    clear hF hz
    cases hZ : (List.drop 19 l == [90])
    all_goals
      have HY := Lib.hid hZ
      go_enter Tryd.func10, Tryd.ntmps10
      go_wp2_with (first | (go_at_call 25; refine (form_c _ _ (by simp; omega) _).mono ?_; rintro e w' ⟨rfl, n, rfl⟩) | (go_quiet ((first | (go_at_call 28; (first | exact quiet_eq (number_c _ (by assumption) (by simp <;> omega) _) | exact quiet_eq2 (number_c _ (by assumption) (by simp <;> omega) _))) | (go_at_call 27; (first | exact quiet_qt (timeOf_i _ _ _ _ _ (by omega) (by omega) (by omega) (by omega) (by omega) (by omega) (by omega) (by omega) (by simp <;> omega) (by assumption) (by assumption) (by assumption) _) | exact quiet_qt2 (timeOf_i _ _ _ _ _ (by omega) (by omega) (by omega) (by omega) (by omega) (by omega) (by omega) (by omega) (by simp <;> omega) (by assumption) (by assumption) (by assumption) _)))))))
    · go_ret2
      exact ⟨by simp [WebT, HF.out, errForm, HZ.out, HY.out], by simp only [Qt, World.drewN_drewN]; exact ⟨_, rfl⟩⟩
    · go_ret2
      exact ⟨by simp [WebT, HF.out, h20, HZ.out, HY.out]; rfl, by simp only [Qt, World.drewN_drewN]; exact ⟨_, rfl⟩⟩
end Go.Proofs.YtkmndlnhpegdgaaDoor

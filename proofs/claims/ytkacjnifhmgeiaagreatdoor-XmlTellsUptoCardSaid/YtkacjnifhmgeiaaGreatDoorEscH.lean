/- Signs that are taken: the program's walk. -/
import Derived.Test.YtkacjnifhmgeiaaGreatDoorGrpD
import Derived.Laws.Runes
namespace Go.Proofs.YtkacjnifhmgeiaaGreatDoor
open Go.RowKit

theorem hasPrefix_c (t p : List UInt8) (w : World) : Calls Tryz.prog 82 #[.string ⟨t.toArray⟩, .string ⟨p.toArray⟩] w fun e w' => e = .returned (.bool (pre p t)) ∧ w = w' :=
  (Tryz.strings_HasPrefix ⟨t.toArray⟩ ⟨p.toArray⟩ w).mono fun _ _ ⟨he, hw⟩ => ⟨he, hw.symm⟩

set_option maxRecDepth 100000 in
set_option maxHeartbeats 4000000 in
theorem named_c (t : List UInt8) (w : World) :
    Calls Tryz.prog 89 #[.string ⟨t.toArray⟩] w fun e w' => e = .returned (.tuple #[.string ⟨(nmd t).1.toArray⟩, .int .i64 (nmd t).2]) ∧ Bl w w' := by
  have h1 := fun p W => hasPrefix_c t p W
  have H1 := Lib.hid h1
  clear h1
  go_enter Tryz.func89, Tryz.ntmps89
  go_wp2
  refine wp_loop_rounds 6 ?_
  repeat any_goals (rw [rounds_succ]; go_wp2_with (first | (go_at_call 82; refine (H1.out _ _).mono ?_; rintro e w' ⟨rfl, rfl⟩) | go_quiet (fail)))
  all_goals
    go_ret2
    exact ⟨by simp [nmd, nAmp, nLt, nGt, nQuot, nApos, *], by repeat (first | exact Bl.refl _ | refine Bl.drewN ?_ _ | refine Bl.drew ?_ | refine Bl.alloc ?_ _)⟩

theorem scalar_c (n : Int) (w : World) :
    Calls Tryz.prog 91 #[.int .i64 n] w fun e w' => e = .returned (.bool (scl n)) ∧ w = w' := by
  go_enter Tryz.func91, Tryz.ntmps91
  go_wp2
  all_goals
    go_ret
    exact ⟨ret_bool (by simp [scl, *] <;> omega), rfl⟩

/-- The variable ErrSyntax holds some error. -/
def ES (w : World) : Prop := ∃ te pe, 1 < w.heap.size ∧ w.cell? ⟨1, 0, none⟩ = some (.iface te pe)
theorem ES.of_bl {w w' : World} (h : ES w) (hb : Bl w w') : ES w' := by
  obtain ⟨te, pe, h1, h2⟩ := h
  exact ⟨te, pe, Nat.lt_of_lt_of_le h1 (Below.size hb), (hb.cells.1 1 0 h1).trans h2⟩
theorem iparse_c (b bits : Int) (l : List UInt8) (hb : b = 10 ∨ b = 16) (hx : bits = 8 ∧ l.length ≤ 1 ∨ bits = 32 ∧ l.length ≤ 7) (hne : 0 < l.length) (w : World) :
    Calls Tryz.prog 114 #[.string ⟨l.toArray⟩, .int .i64 b, .int .i64 bits] w fun e w' => e = .returned (IP b l) ∧ Bl w w' := by
  rcases hb with rfl | rfl
  · exact iparse10 bits l hx hne w
  · exact iparse16 bits l hx hne w
theorem pu_yes (b bits : Int) (l : List UInt8) (hb : b = 10 ∨ b = 16) (hx : bits = 8 ∧ l.length ≤ 1 ∨ bits = 32 ∧ l.length ≤ 7) (hne : 0 < l.length) (hd : l.all (dig b) = true) (w : World) :
    Calls Tryz.prog 103 #[.string ⟨l.toArray⟩, .int .i64 b, .int .i64 bits] w fun e w' => e = .returned (.tuple #[.int .u64 (Nv b l), .nilIface]) ∧ Bl w w' := by
  have h := fun W => iparse_c b bits l hb hx hne W
  rw [IP_yes hd] at h
  have H := Lib.hid h
  clear h hd hb hx
  go_enter Tryz.func103, Tryz.ntmps103
  go_wp2_with (go_at_call 114; (with_reducible refine (H.out _).mono ?_); rintro e w' ⟨rfl, hb'⟩)
  go_ret2
  exact ⟨rfl, hb'⟩
theorem pu_no (b bits : Int) (l : List UInt8) (hb : b = 10 ∨ b = 16) (hx : bits = 8 ∧ l.length ≤ 1 ∨ bits = 32 ∧ l.length ≤ 7) (hne : 0 < l.length) (hd : l.all (dig b) = false) (w : World) (hE : ES w) :
    Calls Tryz.prog 103 #[.string ⟨l.toArray⟩, .int .i64 b, .int .i64 bits] w fun e w' => ∃ N, e = .returned (.tuple #[.int .u64 0, .iface 161 (.pointer (some ⟨N, 0, none⟩))]) ∧ Bl w w' := by
  have h := fun W => iparse_c b bits l hb hx hne W
  rw [IP_no hd] at h
  have H := Lib.hid h
  have hlim : l.length ≤ 281474976710656 := by omega
  clear h hd hb hx
  go_enter Tryz.func103, Tryz.ntmps103
  go_wp2_with (first | (go_at_call 114; (with_reducible refine (H.out _).mono ?_); rintro e w' ⟨rfl, hb'⟩; obtain ⟨te, pe, h1, h2⟩ := hE.of_bl hb'; have H2 := Lib.hid h2; clear h2) | (go_at_call 115; refine (Tryz.strconv_toError_syntax _ _ _ _ (.iface te pe) _ (by simpa [ByteArray.size] using hlim) H2.out (Or.inr ⟨te, pe, rfl⟩)).mono ?_; rintro e w'' ⟨N, rfl, -, -, hb''⟩))
  go_ret2
  exact ⟨N, rfl, hb'.trans hb''⟩

theorem ndg_stop (b : Int) (r : List UInt8) : ∀ k : Nat, k ≤ r.length → (r.take k).all (dig b) = true → (∀ h : k < r.length, dig b r[k] = false) → ndg b r = k := by
  unfold ndg
  induction r with
  | nil => intro k hk _ _; simp at hk; subst hk; rfl
  | cons c r ih =>
    intro k hk ha hs
    cases k with
    | zero =>
      have := hs (by simp)
      simp only [List.getElem_cons_zero] at this
      simp [this]
    | succ k =>
      simp only [List.take_succ_cons, List.all_cons, Bool.and_eq_true] at ha
      rw [List.takeWhile_cons, if_pos ha.1, List.length_cons, ih k (by simpa using hk) ha.2 (fun h => by have := hs (by simpa using h); simpa using this)]

set_option maxRecDepth 100000 in
set_option maxHeartbeats 2000000 in
theorem digits_c (b : Int) (r : List UInt8) (hb : b = 10 ∨ b = 16) (hl : r.length ≤ 4611686018427387904) (w : World) (hE : ES w) :
    Calls Tryz.prog 102 #[.string ⟨r.toArray⟩, .int .i64 b] w fun e w' => e = .returned (.int .i64 (ndg b r)) ∧ Bl w w' := by
  have HB := Lib.hid hb
  clear hb
  go_enter Tryz.func102, Tryz.ntmps102
  go_wp2
  go_loopw [10] (fun i wr => ∃ k : Nat, k ≤ r.length ∧ i = .int .i64 k ∧ (r.take k).all (dig b) = true ∧ Bl w wr) (fun i _ => r.length - (intOf i).toNat)
  case atStart => exact ⟨0, Nat.zero_le _, rfl, rfl, Bl.refl _⟩
  case round =>
    obtain ⟨k, hk, rfl, ha, hbl⟩ := hrel
    by_cases hlt : k < r.length
    · have HT := Lib.hid (take_snoc r k hlt)
      have H1 := Lib.hid (take_one r k hlt)
      have HA := Lib.hid ha
      have HE := Lib.hid (hE.of_bl hbl)
      have hlt2 : (k : Int) + 1 ≤ r.length := by omega
      have hlt3 : k + 1 ≤ r.length := by omega
      have HST := Lib.hid (ndg_stop b r k hk ha)
      clear ha
      cases hd : dig b r[k]
      · have HD := Lib.hid hd
        have HP := Lib.hid (fun W hW => pu_no b 8 (List.take 1 (List.drop k r)) HB.out (Or.inl ⟨rfl, by rw [H1.out]; simp⟩) (by rw [H1.out]; simp) (by rw [H1.out]; simp [HD.out]) W hW)
        clear hd
        go_wp2_with (go_at_call 103; (with_reducible refine (HP.out _ HE.out).mono ?_); rintro e w' ⟨N, rfl, hb'⟩)
        go_ret
        exact ⟨ret_int (by rw [HST.out (fun _ => HD.out)]), hbl.trans hb'⟩
      · have HD := Lib.hid hd
        have HP := Lib.hid (fun W => pu_yes b 8 (List.take 1 (List.drop k r)) HB.out (Or.inl ⟨rfl, by rw [H1.out]; simp⟩) (by rw [H1.out]; simp) (by rw [H1.out]; simp [HD.out]) W)
        clear hd
        go_wp2_with (go_at_call 103; (with_reducible refine (HP.out _).mono ?_); rintro e w' ⟨rfl, hb'⟩)
        go_roundw
        case rel => exact ⟨k + 1, by omega, by go_num, by rw [HT.out, all_snoc, HA.out, HD.out]; rfl, hbl.trans hb'⟩
        case measure => simp [intOf]; omega
    · have HST := Lib.hid (ndg_stop b r k hk ha (fun h => absurd h hlt))
      clear ha
      have hkl : k = r.length := by omega
      have HK := Lib.hid hkl
      clear hkl
      go_wp2
      go_ret
      exact ⟨ret_int (by rw [HST.out, HK.out]), hbl⟩

set_option maxRecDepth 100000 in
set_option maxHeartbeats 4000000 in
theorem numbered_c (t : List UInt8) (hl : t.length ≤ 4611686018427387904) (w : World) (hE : ES w) :
    Calls Tryz.prog 90 #[.string ⟨t.toArray⟩] w fun e w' => e = .returned (.tuple #[.int .i64 (nbr t).1, .int .i64 (nbr t).2]) ∧ Bl w w' := by
  have hP := fun p W => hasPrefix_c t p W
  have HP := Lib.hid hP
  clear hP
  cases h1 : pre [38, 35, 120] t
  · cases h2 : pre [38, 35] t
    · have HN := Lib.hid (show nbr t = (0, 0) by unfold nbr; rw [h1, h2]; rfl)
      go_enter Tryz.func90, Tryz.ntmps90
      go_wp2_with (go_at_call 82; refine (HP.out _ _).mono ?_; rintro e w' ⟨rfl, rfl⟩)
      go_ret2
      exact ⟨by rw [HN.out]; rfl, Bl.refl _⟩
    · have hpl := pre_len h2
      simp only [List.length_cons, List.length_nil] at hpl
      have hf : (2 : Int) ≤ t.length := by omega
      have hf2 : 2 ≤ t.length := by omega
      have HN := Lib.hid (show nbr t = nbF 10 2 7 (t.drop 2) by unfold nbr; rw [h1, h2]; rfl)
      have hdl := ndg_le 10 (t.drop 2)
      have hall := ndg_all 10 (t.drop 2)
      have cD := fun W hW => digits_c 10 (t.drop 2) (by omega) (by simp; omega) W hW
      obtain ⟨d, hd⟩ : ∃ d, d = ndg 10 (t.drop 2) := ⟨_, rfl⟩
      rw [← hd] at hdl hall cD
      have HDD := Lib.hid hd
      have HDL := Lib.hid hall
      have CD := Lib.hid cD
      simp only [List.length_drop] at hdl
      clear hd hall cD
      have bad : (d = 0 ∨ 7 < d ∨ (t.drop 2)[d]? ≠ some 59) → nbF 10 2 7 (t.drop 2) = (0, 0) := by
        intro h
        unfold nbF
        rw [if_pos]
        simp only [nbB, ← HDD.out, Bool.or_eq_true, decide_eq_true_eq]
        rcases h with h | h | h
        · exact Or.inl (Or.inl h)
        · exact Or.inl (Or.inr h)
        · exact Or.inr h
      have good : ¬ (d = 0 ∨ 7 < d ∨ (t.drop 2)[d]? ≠ some 59) → nbF 10 2 7 (t.drop 2) = (Nv 10 ((t.drop 2).take d), 2 + d + 1) := by
        intro h
        unfold nbF
        rw [if_neg, ← HDD.out]
        simp only [nbB, ← HDD.out, Bool.or_eq_true, decide_eq_true_eq]
        rintro ((h' | h') | h')
        · exact h (Or.inl h')
        · exact h (Or.inr (Or.inl h'))
        · exact h (Or.inr (Or.inr h'))
      have BAD := Lib.hid bad
      have GOOD := Lib.hid good
      clear bad good
      cases h0 : ((d : Int) == 0)
      rotate_left
      · have H0 := Lib.hid (eq_of_beq h0)
        go_enter Tryz.func90, Tryz.ntmps90
        go_wp2_with (first | (go_at_call 82; refine (HP.out _ _).mono ?_; rintro e w' ⟨rfl, rfl⟩) | (go_at_call 102; (with_reducible refine (CD.out _ hE).mono ?_); rintro e w' ⟨rfl, hb'⟩))
        go_ret2
        exact ⟨by rw [HN.out, BAD.out (Or.inl (by have := H0.out; omega))]; rfl, hb'⟩
      have H0 := Lib.hid (ne_of_beq_false h0)
      by_cases hm : 7 < d
      · have hm' : (7 : Int) < d := by omega
        go_enter Tryz.func90, Tryz.ntmps90
        go_wp2_with (first | (go_at_call 82; refine (HP.out _ _).mono ?_; rintro e w' ⟨rfl, rfl⟩) | (go_at_call 102; (with_reducible refine (CD.out _ hE).mono ?_); rintro e w' ⟨rfl, hb'⟩))
        go_ret2
        exact ⟨by rw [HN.out, BAD.out (Or.inr (Or.inl hm))]; rfl, hb'⟩
      have hm' : ¬ (7 : Int) < d := by omega
      cases he : ((d : Int) == ((t.length - 2 : Nat) : Int))
      rotate_left
      · have H1 := Lib.hid (eq_of_beq he)
        go_enter Tryz.func90, Tryz.ntmps90
        go_wp2_with (first | (go_at_call 82; refine (HP.out _ _).mono ?_; rintro e w' ⟨rfl, rfl⟩) | (go_at_call 102; (with_reducible refine (CD.out _ hE).mono ?_); rintro e w' ⟨rfl, hb'⟩))
        go_ret2
        exact ⟨by rw [HN.out, BAD.out (Or.inr (Or.inr (by rw [List.getElem?_eq_none (by have := H1.out; simp; omega)]; simp)))]; rfl, hb'⟩
      have hne := ne_of_beq_false he
      have hlt : d < t.length - 2 := by omega
      have hix : 2 + d < t.length := by omega
      clear hne
      have hlt' : (d : Int) < ((t.length - 2 : Nat) : Int) := by omega
      have hle' : (d : Int) ≤ ((t.length - 2 : Nat) : Int) := by omega
      have hle : d ≤ t.length - 2 := by omega
      have hd0 : 0 < d := by have := H0.out; omega
      have hbd := Nv_bd 10 (by omega) (List.take d (List.drop 2 t)) HDL.out (by simp; omega)
      have PU := Lib.hid (fun W => pu_yes 10 32 (List.take d (List.drop 2 t)) (by omega) (Or.inr ⟨rfl, by simp; omega⟩) (by simp; omega) HDL.out W)
      have hgd : (t.drop 2)[d]? = some (t[2 + d]'hix) := by rw [List.getElem?_drop]; exact List.getElem?_eq_getElem _
      have HGD := Lib.hid hgd
      clear hgd
      cases hx : (((t[2 + d]'hix).toNat : Int) != 59)
      · have HX := Lib.hid hx
        go_enter Tryz.func90, Tryz.ntmps90
        go_wp2_with (first | (go_at_call 82; refine (HP.out _ _).mono ?_; rintro e w' ⟨rfl, rfl⟩) | (go_at_call 102; (with_reducible refine (CD.out _ hE).mono ?_); rintro e w' ⟨rfl, hb'⟩) | (go_at_call 103; (with_reducible refine (PU.out _).mono ?_); rintro e w'' ⟨rfl, hb''⟩))
        go_ret2
        have hg : ¬ (d = 0 ∨ 7 < d ∨ (t.drop 2)[d]? ≠ some 59) := by
          rw [HGD.out]
          rintro (h | h | h)
          · omega
          · exact hm h
          · have := HX.out
            simp only [bne_eq_false_iff_eq] at this
            exact h (by rw [show t[2 + d]'hix = 59 from UInt8.toNat_inj.1 (by rw [show (59 : UInt8).toNat = 59 from rfl]; omega)])
        exact ⟨by rw [HN.out, GOOD.out hg]; simp <;> omega, hb'.trans hb''⟩
      · have HX := Lib.hid hx
        go_enter Tryz.func90, Tryz.ntmps90
        go_wp2_with (first | (go_at_call 82; refine (HP.out _ _).mono ?_; rintro e w' ⟨rfl, rfl⟩) | (go_at_call 102; (with_reducible refine (CD.out _ hE).mono ?_); rintro e w' ⟨rfl, hb'⟩))
        go_ret2
        have hg : (t.drop 2)[d]? ≠ some 59 := by
          rw [HGD.out]
          intro h
          have := HX.out
          rw [Option.some.inj h] at this
          exact absurd this (by decide)
        exact ⟨by rw [HN.out, BAD.out (Or.inr (Or.inr hg))]; rfl, hb'⟩
  · have hpl := pre_len h1
    simp only [List.length_cons, List.length_nil] at hpl
    have hf : (3 : Int) ≤ t.length := by omega
    have hf2 : 3 ≤ t.length := by omega
    have HN := Lib.hid (show nbr t = nbF 16 3 6 (t.drop 3) by unfold nbr; rw [h1]; rfl)
    have hdl := ndg_le 16 (t.drop 3)
    have hall := ndg_all 16 (t.drop 3)
    have cD := fun W hW => digits_c 16 (t.drop 3) (by omega) (by simp; omega) W hW
    obtain ⟨d, hd⟩ : ∃ d, d = ndg 16 (t.drop 3) := ⟨_, rfl⟩
    rw [← hd] at hdl hall cD
    have HDD := Lib.hid hd
    have HDL := Lib.hid hall
    have CD := Lib.hid cD
    simp only [List.length_drop] at hdl
    clear hd hall cD
    have bad : (d = 0 ∨ 6 < d ∨ (t.drop 3)[d]? ≠ some 59) → nbF 16 3 6 (t.drop 3) = (0, 0) := by
      intro h
      unfold nbF
      rw [if_pos]
      simp only [nbB, ← HDD.out, Bool.or_eq_true, decide_eq_true_eq]
      rcases h with h | h | h
      · exact Or.inl (Or.inl h)
      · exact Or.inl (Or.inr h)
      · exact Or.inr h
    have good : ¬ (d = 0 ∨ 6 < d ∨ (t.drop 3)[d]? ≠ some 59) → nbF 16 3 6 (t.drop 3) = (Nv 16 ((t.drop 3).take d), 3 + d + 1) := by
      intro h
      unfold nbF
      rw [if_neg, ← HDD.out]
      simp only [nbB, ← HDD.out, Bool.or_eq_true, decide_eq_true_eq]
      rintro ((h' | h') | h')
      · exact h (Or.inl h')
      · exact h (Or.inr (Or.inl h'))
      · exact h (Or.inr (Or.inr h'))
    have BAD := Lib.hid bad
    have GOOD := Lib.hid good
    clear bad good
    cases h0 : ((d : Int) == 0)
    rotate_left
    · have H0 := Lib.hid (eq_of_beq h0)
      go_enter Tryz.func90, Tryz.ntmps90
      go_wp2_with (first | (go_at_call 82; refine (HP.out _ _).mono ?_; rintro e w' ⟨rfl, rfl⟩) | (go_at_call 102; (with_reducible refine (CD.out _ hE).mono ?_); rintro e w' ⟨rfl, hb'⟩))
      go_ret2
      exact ⟨by rw [HN.out, BAD.out (Or.inl (by have := H0.out; omega))]; rfl, hb'⟩
    have H0 := Lib.hid (ne_of_beq_false h0)
    by_cases hm : 6 < d
    · have hm' : (6 : Int) < d := by omega
      go_enter Tryz.func90, Tryz.ntmps90
      go_wp2_with (first | (go_at_call 82; refine (HP.out _ _).mono ?_; rintro e w' ⟨rfl, rfl⟩) | (go_at_call 102; (with_reducible refine (CD.out _ hE).mono ?_); rintro e w' ⟨rfl, hb'⟩))
      go_ret2
      exact ⟨by rw [HN.out, BAD.out (Or.inr (Or.inl hm))]; rfl, hb'⟩
    have hm' : ¬ (6 : Int) < d := by omega
    cases he : ((d : Int) == ((t.length - 3 : Nat) : Int))
    rotate_left
    · have H1 := Lib.hid (eq_of_beq he)
      go_enter Tryz.func90, Tryz.ntmps90
      go_wp2_with (first | (go_at_call 82; refine (HP.out _ _).mono ?_; rintro e w' ⟨rfl, rfl⟩) | (go_at_call 102; (with_reducible refine (CD.out _ hE).mono ?_); rintro e w' ⟨rfl, hb'⟩))
      go_ret2
      exact ⟨by rw [HN.out, BAD.out (Or.inr (Or.inr (by rw [List.getElem?_eq_none (by have := H1.out; simp; omega)]; simp)))]; rfl, hb'⟩
    have hne := ne_of_beq_false he
    have hlt : d < t.length - 3 := by omega
    have hix : 3 + d < t.length := by omega
    clear hne
    have hlt' : (d : Int) < ((t.length - 3 : Nat) : Int) := by omega
    have hle' : (d : Int) ≤ ((t.length - 3 : Nat) : Int) := by omega
    have hle : d ≤ t.length - 3 := by omega
    have hd0 : 0 < d := by have := H0.out; omega
    have hbd := Nv_bd 16 (by omega) (List.take d (List.drop 3 t)) HDL.out (by simp; omega)
    have PU := Lib.hid (fun W => pu_yes 16 32 (List.take d (List.drop 3 t)) (by omega) (Or.inr ⟨rfl, by simp; omega⟩) (by simp; omega) HDL.out W)
    have hgd : (t.drop 3)[d]? = some (t[3 + d]'hix) := by rw [List.getElem?_drop]; exact List.getElem?_eq_getElem _
    have HGD := Lib.hid hgd
    clear hgd
    cases hx : (((t[3 + d]'hix).toNat : Int) != 59)
    · have HX := Lib.hid hx
      go_enter Tryz.func90, Tryz.ntmps90
      go_wp2_with (first | (go_at_call 82; refine (HP.out _ _).mono ?_; rintro e w' ⟨rfl, rfl⟩) | (go_at_call 102; (with_reducible refine (CD.out _ hE).mono ?_); rintro e w' ⟨rfl, hb'⟩) | (go_at_call 103; (with_reducible refine (PU.out _).mono ?_); rintro e w'' ⟨rfl, hb''⟩))
      go_ret2
      have hg : ¬ (d = 0 ∨ 6 < d ∨ (t.drop 3)[d]? ≠ some 59) := by
        rw [HGD.out]
        rintro (h | h | h)
        · omega
        · exact hm h
        · have := HX.out
          simp only [bne_eq_false_iff_eq] at this
          exact h (by rw [show t[3 + d]'hix = 59 from UInt8.toNat_inj.1 (by rw [show (59 : UInt8).toNat = 59 from rfl]; omega)])
      exact ⟨by rw [HN.out, GOOD.out hg]; simp <;> omega, hb'.trans hb''⟩
    · have HX := Lib.hid hx
      go_enter Tryz.func90, Tryz.ntmps90
      go_wp2_with (first | (go_at_call 82; refine (HP.out _ _).mono ?_; rintro e w' ⟨rfl, rfl⟩) | (go_at_call 102; (with_reducible refine (CD.out _ hE).mono ?_); rintro e w' ⟨rfl, hb'⟩))
      go_ret2
      have hg : (t.drop 3)[d]? ≠ some 59 := by
        rw [HGD.out]
        intro h
        have := HX.out
        rw [Option.some.inj h] at this
        exact absurd this (by decide)
      exact ⟨by rw [HN.out, BAD.out (Or.inr (Or.inr hg))]; rfl, hb'⟩
end Go.Proofs.YtkacjnifhmgeiaaGreatDoor

/- Tokens: the reference: where a kind of bytes ends; what stands at a place, said by places. -/
import Derived.Test.YtoaecehkmoehjaaGreatDoorTokRa
import Derived.Test.YtoaecehkmoehjaaGreatDoorTokI
namespace Go.Proofs.YtoaecehkmoehjaaGreatDoor

/-- From K on stand bytes of a kind, up to E. -/
structure Scn (p : UInt8 → Bool) (s : List UInt8) (K E : Nat) : Prop where
  le : K ≤ E
  ub : E ≤ s.length
  inn : ∀ k (h : k < s.length), K ≤ k → k < E → p s[k] = true
  out : ∀ h : E < s.length, p s[E] = false
  dw : (s.drop K).dropWhile p = s.drop E
  tw : (s.drop K).takeWhile p = (s.drop K).take (E - K)
theorem scan (p : UInt8 → Bool) (s : List UInt8) (K : Nat) (hK : K ≤ s.length) : ∃ E, Scn p s K E := by
  have h2 : ((s.drop K).takeWhile p).length ≤ (s.drop K).length := (List.takeWhile_prefix p).length_le
  rw [List.length_drop] at h2
  refine ⟨K + ((s.drop K).takeWhile p).length, by omega, by omega, fun k h h1 h3 => ?_, fun h => ?_, ?_, ?_⟩
  · have := (hd_in p s K (k - K) (by omega)).1
    rw [show K + (k - K) = k by omega, hd_drop p s k h] at this
    exact this
  · have := hd_out p s K
    rwa [hd_drop p s _ h] at this
  · rw [← tw_drop, List.drop_drop]
  · rw [show K + ((s.drop K).takeWhile p).length - K = ((s.drop K).takeWhile p).length by omega, tw_take]
theorem cutS_one (q : UInt8) : ∀ r : List UInt8, cutS [q] r = match r.dropWhile (· != q) with | [] => none | _ :: s => some s := by
  intro r
  induction r with
  | nil => rfl
  | cons c r ih =>
    by_cases h : c = q
    · subst h
      rw [cutS_yes (by simp [pre, List.isPrefixOf])]
      simp
    · rw [cutS_no (by simp [pre, List.isPrefixOf]; exact fun e => h e.symm), ih, List.dropWhile_cons, if_pos (by simpa using h)]
theorem nxI_scan {q : UInt8} {s : List UInt8} {K E : Nat} (h : Scn (· != q) s K E) : nxI s [q] K = if E < s.length then (E : Int) else -1 := by
  unfold nxI
  rw [cutS_one, h.dw]
  by_cases hE : E < s.length
  · rw [if_pos hE, List.drop_eq_getElem_cons hE]
    simp only [List.length_drop, List.length_cons, List.length_nil]
    omega
  · rw [if_neg hE, List.drop_eq_nil_of_le (by omega)]
theorem valOf_plain {s : List UInt8} {K E F : Nat} (h : Scn wht s K E) (h2 : Scn vch s E F) (hq : ∀ h : E < s.length, s[E] ≠ 34 ∧ s[E] ≠ 39) : valOf (s.drop K) = some ((s.drop E).take (F - E), s.drop F) := by
  unfold valOf
  rw [h.dw]
  by_cases hE : E < s.length
  · have h3 := hq hE
    have e := List.drop_eq_getElem_cons hE
    split
    · rename_i e2; rw [e] at e2; cases e2
    · rename_i q r e2
      have h4 := e2.symm.trans e
      obtain ⟨rfl, rfl⟩ := List.cons.inj h4
      rw [if_neg (by rintro (h | h); exact h3.1 h; exact h3.2 h), ← e, h2.tw, h2.dw]
  · have e : s.drop E = [] := List.drop_eq_nil_of_le (by omega)
    have e2 : s.drop F = [] := List.drop_eq_nil_of_le (by have := h2.le; omega)
    rw [e, e2]; simp
theorem valOf_quote {s : List UInt8} {K E F : Nat} (h : Scn wht s K E) (hE : E < s.length) (hq : s[E] = 34 ∨ s[E] = 39) (h2 : Scn (· != s[E]) s (E + 1) F) :
    valOf (s.drop K) = if F < s.length then some ((s.drop (E + 1)).take (F - (E + 1)), s.drop (F + 1)) else none := by
  unfold valOf
  rw [h.dw, List.drop_eq_getElem_cons hE]
  simp only []
  rw [if_pos hq, h2.dw, h2.tw]
  by_cases hF : F < s.length
  · rw [if_pos hF, List.drop_eq_getElem_cons hF]
  · rw [if_neg hF, List.drop_eq_nil_of_le (by omega)]

/-- What stands behind an attribute's name (E3: behind the blanks there). -/
inductive OneIx (s : List UInt8) (E3 : Nat) : Option (List UInt8 × Nat) → Prop
  | none (h : ∀ h : E3 < s.length, s[E3] ≠ 61) : OneIx s E3 (some ([], E3))
  | plain (h : E3 < s.length) (h61 : s[E3] = 61) (E4 E5 : Nat) (a : Scn wht s (E3 + 1) E4) (b : Scn vch s E4 E5) (c : ∀ h : E4 < s.length, s[E4] ≠ 34 ∧ s[E4] ≠ 39) : OneIx s E3 (some ((Tk ((s.drop E4).take (E5 - E4))).1, E5))
  | quote (h : E3 < s.length) (h61 : s[E3] = 61) (E4 E5 : Nat) (a : Scn wht s (E3 + 1) E4) (hE : E4 < s.length) (hq : s[E4] = 34 ∨ s[E4] = 39) (b : Scn (· != s[E4]) s (E4 + 1) E5) (hF : E5 < s.length) : OneIx s E3 (some ((Tk ((s.drop (E4 + 1)).take (E5 - (E4 + 1)))).1, E5 + 1))
  | stop (h : E3 < s.length) (h61 : s[E3] = 61) (E4 E5 : Nat) (a : Scn wht s (E3 + 1) E4) (hE : E4 < s.length) (hq : s[E4] = 34 ∨ s[E4] = 39) (b : Scn (· != s[E4]) s (E4 + 1) E5) (hF : ¬ E5 < s.length) : OneIx s E3 none
theorem one_ix (s : List UInt8) (E1 E2 E3 : Nat) (h1 : E1 < s.length) (a : Scn nch s (E1 + 1) E2) (b : Scn wht s E2 E3) :
    ∃ R, OneIx s E3 R ∧ oneAt s[E1] (s.drop (E1 + 1)) = R.map fun y => ((fold ((s.drop E1).take (E2 - E1)), y.1), s.drop y.2) := by
  have hnm : s[E1] :: (s.drop (E1 + 1)).takeWhile nch = (s.drop E1).take (E2 - E1) := by
    rw [a.tw, List.drop_eq_getElem_cons h1, show E2 - E1 = (E2 - (E1 + 1)) + 1 by have := a.le; omega, List.take_succ_cons]
  have h3 : ((s.drop (E1 + 1)).dropWhile nch).dropWhile wht = s.drop E3 := by rw [a.dw, b.dw]
  by_cases h : E3 < s.length
  · by_cases h61 : s[E3] = 61
    · obtain ⟨E4, s4⟩ := scan wht s (E3 + 1) (by omega)
      have key : oneAt s[E1] (s.drop (E1 + 1)) = (match valOf (s.drop (E3 + 1)) with | none => none | some (v, u) => some ((fold ((s.drop E1).take (E2 - E1)), (Tk v).1), u)) := by
        unfold oneAt
        rw [h3, hnm, List.drop_eq_getElem_cons h]
        simp only []
        rw [if_pos h61]
        rcases valOf (s.drop (E3 + 1)) with _ | ⟨_, _⟩ <;> rfl
      by_cases hq : ∃ hE : E4 < s.length, s[E4] = 34 ∨ s[E4] = 39
      · obtain ⟨hE, hq⟩ := hq
        obtain ⟨E5, s5⟩ := scan (· != s[E4]) s (E4 + 1) (by omega)
        have hv := valOf_quote s4 hE hq s5
        by_cases hF : E5 < s.length
        · exact ⟨_, .quote h h61 E4 E5 s4 hE hq s5 hF, by rw [key, hv, if_pos hF]; rfl⟩
        · exact ⟨_, .stop h h61 E4 E5 s4 hE hq s5 hF, by rw [key, hv, if_neg hF]; rfl⟩
      · have hq' : ∀ h : E4 < s.length, s[E4] ≠ 34 ∧ s[E4] ≠ 39 := fun hE => ⟨fun e => hq ⟨hE, .inl e⟩, fun e => hq ⟨hE, .inr e⟩⟩
        obtain ⟨E5, s5⟩ := scan vch s E4 s4.ub
        have hv := valOf_plain s4 s5 hq'
        exact ⟨_, .plain h h61 E4 E5 s4 s5 hq', by rw [key, hv]; rfl⟩
    · refine ⟨_, .none (fun _ => h61), ?_⟩
      unfold oneAt
      rw [h3, hnm, List.drop_eq_getElem_cons h]
      simp only []
      rw [if_neg h61, ← List.drop_eq_getElem_cons h]; rfl
  · refine ⟨_, .none (fun h' => absurd h' h), ?_⟩
    unfold oneAt
    rw [h3, hnm, List.drop_eq_nil_of_le (by omega)]
    simp only [Option.map_some, List.drop_eq_nil_of_le (show s.length ≤ E3 by omega)]
theorem c_eq (c : UInt8) (n : Nat) (hn : n < 256) (h : c = UInt8.ofNat n) : ((c.toNat : Int) == (n : Int)) = true ∧ ((c.toNat : Int) != (n : Int)) = false := by
  subst h
  have : (UInt8.ofNat n).toNat = n := by simp [Nat.mod_eq_of_lt hn]
  simp [this]
theorem c_ne (c : UInt8) (n : Nat) (_hn : n < 256) (h : c ≠ UInt8.ofNat n) : ((c.toNat : Int) == (n : Int)) = false ∧ ((c.toNat : Int) != (n : Int)) = true := by
  have h2 : c.toNat ≠ n := fun e => h (by rw [← e]; simp)
  have h3 : ((c.toNat : Int) == (n : Int)) = false := by simpa using (by omega : ¬ (c.toNat : Int) = (n : Int))
  exact ⟨h3, by simp [bne, h3]⟩
end Go.Proofs.YtoaecehkmoehjaaGreatDoor

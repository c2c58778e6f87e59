/- Tokens: the reader's small steps. -/
import Derived.Test.YtoaecehkmoehjaaGreatDoorTokN
import Derived.Test.YtoaecehkmoehjaaGreatDoorTokA
import Derived.Test.YtoaecehkmoehjaaGreatDoorEscJ
namespace Go.Proofs.YtoaecehkmoehjaaGreatDoor
open Go.RowKit

def hd (p : UInt8 → Bool) : List UInt8 → Bool
  | [] => false
  | c :: _ => p c
theorem hd_drop (p : UInt8 → Bool) (s : List UInt8) (k : Nat) (h : k < s.length) : hd p (s.drop k) = p s[k] := by rw [List.drop_eq_getElem_cons h]; rfl
theorem hd_end (p : UInt8 → Bool) (s : List UInt8) (k : Nat) (h : s.length ≤ k) : hd p (s.drop k) = false := by rw [List.drop_eq_nil_of_le h]; rfl


/-- A closure that tells of a byte whether it is of a kind, in each world of a class. -/
structure Do (N : Nat) (cap : Array Value) (p : UInt8 → Bool) (I : World → Prop) : Prop where
  cf : ∀ (args : Array Value) (W : World), Sem.run Tryz.prog (callFunc N args) W = .ok (.enter N args) W
  go : ∀ (c : UInt8) W, I W → Calls Tryz.prog N (#[.int .u8 (c.toNat : Int)] ++ cap) W fun e w' => e = .returned (.bool (p c)) ∧ Qt W w'
  qt : ∀ W W', I W → Qt W W' → I W'

theorem here_c (N : Nat) (cap : Array Value) (p : UInt8 → Bool) (I : World → Prop) (hD : Do N cap p I) (b k : Nat) (s x : List UInt8) (v : Value) (w : World) (hI : I w) (hR : Rk w b s k x v) (hs : s.length ≤ 1099511627776) :
    Calls Tryz.prog 79 #[.pointer (some ⟨b, 0, none⟩), .func (.func N) #[] cap] w fun e w' => e = .returned (.bool (hd p (s.drop k))) ∧ Qt w w' := by
  obtain ⟨c0, c1, c2, c3, f0, f1, f2, f3⟩ := hR.cells
  have hcf := hD.cf
  have HD := Lib.hid (fun c W h => hD.go c W (hD.qt w W hI h))
  clear hD hR
  by_cases hlt : k < s.length
  · have hlt' : (k : Int) < (s.length : Int) := by omega
    have H1 := Lib.hid (hd_drop p s k hlt)
    go_enter Tryz.func79, Tryz.ntmps79
    go_wp2_with (go_quiet (first | (refine quiet_qt (HD.out s[k] _ ?_); exact ⟨_, rfl⟩)))
    go_ret
    exact ⟨by rw [H1.out]; rfl, (Qt.refl _).drewN _⟩
  · have hlt' : decide ((k : Int) < (s.length : Int)) = false := by simp; omega
    have H1 := Lib.hid (hd_end p s k (by omega))
    go_enter Tryz.func79, Tryz.ntmps79
    go_wp2_with (go_quiet (fail))
    go_ret
    exact ⟨by rw [H1.out]; rfl, (Qt.refl _).drewN _⟩

theorem tw_take {α : Type} (p : α → Bool) (l : List α) : l.take (l.takeWhile p).length = l.takeWhile p := (List.prefix_iff_eq_take.1 (List.takeWhile_prefix p)).symm
theorem tw_drop {α : Type} (p : α → Bool) (l : List α) : l.drop (l.takeWhile p).length = l.dropWhile p := by
  induction l with
  | nil => rfl
  | cons a l ih => simp only [List.takeWhile_cons, List.dropWhile_cons]; split <;> simp [ih]
theorem hd_in (p : UInt8 → Bool) (s : List UInt8) (k j : Nat) (h : j < ((s.drop k).takeWhile p).length) : hd p (s.drop (k + j)) = true ∧ k + j < s.length := by
  have h1 := tw_take p (s.drop k)
  have h2 : ((s.drop k).takeWhile p).length ≤ (s.drop k).length := (List.takeWhile_prefix p).length_le
  rw [List.length_drop] at h2
  have hlt : k + j < s.length := by omega
  refine ⟨?_, hlt⟩
  rw [hd_drop p s (k + j) hlt]
  have h3 : ((s.drop k).takeWhile p)[j] = s[k + j] := by
    have : ((s.drop k).take ((s.drop k).takeWhile p).length)[j]'(by rw [h1]; exact h) = s[k + j] := by simp
    rw [← this]; congr 1; exact h1.symm
  rw [← h3]; exact mem_tw (List.getElem_mem h)
theorem hd_out (p : UInt8 → Bool) (s : List UInt8) (k : Nat) : hd p (s.drop (k + ((s.drop k).takeWhile p).length)) = false := by
  rw [← List.drop_drop, tw_drop]
  induction s.drop k with
  | nil => rfl
  | cons a l ih =>
    rw [List.dropWhile_cons]
    cases h : p a
    · simp [hd, h]
    · simpa using ih

set_option maxHeartbeats 1000000 in
theorem pass_c (N : Nat) (cap : Array Value) (p : UInt8 → Bool) (I : World → Prop) (hD : Do N cap p I) (b k : Nat) (s x : List UInt8) (v : Value) (w : World) (hI : I w) (hI2 : ∀ W u, I W → I (W.setCell ⟨b, 1, none⟩ u)) (hR : Rk w b s k x v) (hk : k ≤ s.length) (hs : s.length ≤ 1099511627776) :
    Calls Tryz.prog 64 #[.pointer (some ⟨b, 0, none⟩), .func (.func N) #[] cap] w fun e w' => e = .returned (.string ⟨((s.drop k).takeWhile p).toArray⟩) ∧
      Rk w' b s (k + ((s.drop k).takeWhile p).length) x v ∧ w.grownBy w' (some b) ∧ I w' := by
  obtain ⟨c0, c1, c2, c3, f0, f1, f2, f3⟩ := hR.cells
  have HH := Lib.hid (fun j W h1 h2 => here_c N cap p I hD b j s x v W h1 h2 hs)
  have HIN := Lib.hid (hd_in p s k)
  have HOUT := Lib.hid (hd_out p s k)
  have HT := Lib.hid (tw_take p (s.drop k))
  have hle : k + ((s.drop k).takeWhile p).length ≤ s.length := by
    have h2 : ((s.drop k).takeWhile p).length ≤ (s.drop k).length := (List.takeWhile_prefix p).length_le
    rw [List.length_drop] at h2; omega
  have HQ := Lib.hid hD.qt
  have HI2 := Lib.hid hI2
  obtain ⟨t, ht⟩ : ∃ t, t = (s.drop k).takeWhile p := ⟨_, rfl⟩
  rw [← ht] at HIN HOUT HT hle ⊢
  clear ht hD hI2
  go_enter Tryz.func64, Tryz.ntmps64
  go_wp2
  clear c0 c1 c2 c3 f0 f1 f2 f3
  go_loopw [] (fun wr => ∃ j : Nat, j ≤ t.length ∧ Rk wr b s (k + j) x v ∧ w.grownBy wr (some b) ∧ I wr) (fun wr => s.length - atOf b wr)
  case atStart => exact ⟨0, Nat.zero_le _, hR, gb_refl _ _, hI⟩
  case round =>
    obtain ⟨j, hj, hRr, hg, hIr⟩ := hrel
    by_cases hlt : j < t.length
    · obtain ⟨h1, h2⟩ := HIN.out j hlt
      have h2' : (k : Int) + (j : Int) < (s.length : Int) := by omega
      go_wp2_with (go_at_call 79; (with_reducible refine (HH.out (k + j) _ hIr hRr).mono ?_); rintro e w1 ⟨rfl, hq⟩; have hR1 := hRr.of_bl hq.bl; have hI1 := HQ.out _ _ hIr hq; have hg1 := gb_trans hg (gb_qt (b := some b) hq); obtain ⟨c0, c1, c2, c3, f0, f1, f2, f3⟩ := hR1.cells)
      go_roundw
      case rel => exact ⟨j + 1, by omega, hR1.seti (by omega), gb_set hg1 _ _, HI2.out _ _ hI1⟩
      case measure =>
        have hz := (hR1.seti (n := (k : Int) + (j : Int) + 1) (j := k + j + 1) (by omega)).at_eq
        rw [hRr.at_eq, hz]; omega
    · obtain rfl : j = t.length := by omega
      have h1 := HOUT.out
      go_wp2_with (first | (go_at_call 79; (with_reducible refine (HH.out (k + t.length) _ hIr hRr).mono ?_); rintro e w1 ⟨rfl, hq⟩; have hR1 := hRr.of_bl hq.bl; have hI1 := HQ.out _ _ hIr hq; have hg1 := gb_trans hg (gb_qt (b := some b) hq); obtain ⟨c0, c1, c2, c3, f0, f1, f2, f3⟩ := hR1.cells) | go_quiet (fail))
      go_ret
      refine ⟨?_, hR1.of_bl ((Bl.refl _).drewN _), gb_drewN hg1 _, HQ.out _ _ hI1 ((Qt.refl _).drewN _)⟩
      have e : List.take (k + t.length - k) (List.drop k s) = t := by rw [Nat.add_sub_cancel_left]; exact HT.out
      show Ending.returned (.string ⟨(List.take (k + t.length - k) (List.drop k s)).toArray⟩) = _
      rw [e]
end Go.Proofs.YtoaecehkmoehjaaGreatDoor

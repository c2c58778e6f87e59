/- Tokens: a value behind a =. -/
import Derived.Test.YtoaecehkmoehjaaGreatDoorTokF
namespace Go.Proofs.YtoaecehkmoehjaaGreatDoor
open Go.RowKit

theorem cf_v2 : ∀ (args : Array Value) (W : World), Sem.run Tryz.prog (callFunc 115 args) W = .ok (.enter 115 args) W := by
  intro args W
  simp [callFunc, go_sem, Tryz.func115, Tryz.f115]
theorem clo_v2 (c Q : UInt8) (q : Nat) (w : World) (hq : w.cell? ⟨q, 0, none⟩ = some (.int .u8 (Q.toNat : Int))) :
    Calls Tryz.prog 115 #[.int .u8 (c.toNat : Int), .pointer (some ⟨q, 0, none⟩)] w fun e w' => e = .returned (.bool (c != Q)) ∧ w = w' := by
  go_enter Tryz.func115, Tryz.ntmps115
  go_wp2
  go_ret
  refine ⟨ret_bool ?_, rfl⟩
  rw [Bool.eq_iff_iff]
  simp only [bne_iff_ne, ne_eq]
  constructor
  · intro h e; exact h (by rw [e])
  · intro h e; exact h (UInt8.toNat_inj.1 (by omega))
theorem do_v2 (Q : UInt8) (q : Nat) : Do 115 #[.pointer (some ⟨q, 0, none⟩)] (· != Q) (fun W => W.cell? ⟨q, 0, none⟩ = some (.int .u8 (Q.toNat : Int))) :=
  ⟨cf_v2, fun c W h => (clo_v2 c Q q W h).mono fun _ _ ⟨h, hw⟩ => ⟨h, hw ▸ Qt.refl _⟩, fun W W' h hq => by obtain ⟨n, rfl⟩ := hq; exact h⟩
theorem hd_isq (q : UInt8) (r : List UInt8) : (hd isq (q :: r) = true) ↔ (q = 34 ∨ q = 39) := by
  have h1 : q.toNat = 34 ↔ q = 34 := ⟨fun h => UInt8.toNat_inj.1 h, fun h => by rw [h]; rfl⟩
  have h2 : q.toNat = 39 ↔ q = 39 := ⟨fun h => UInt8.toNat_inj.1 h, fun h => by rw [h]; rfl⟩
  simp [hd, isq, h1, h2]
theorem alloc_gb (w : World) (o : Obj) (b : Option Nat) : w.grownBy (w.alloc o) b := World.grownBy_alloc w o b

set_option maxHeartbeats 1000000 in
theorem value_plain (b : Nat) (s t x : List UInt8) (v : Value) (w : World) (hR : Rr w b s t x v) (hs : s.length ≤ 1099511627776) (hq : hd isq (t.dropWhile wht) = false) :
    Calls Tryz.prog 100 #[.pointer (some ⟨b, 0, none⟩)] w fun e w' => e = .returned (.string ⟨((t.dropWhile wht).takeWhile vch).toArray⟩) ∧ Rr w' b s ((t.dropWhile wht).dropWhile vch) x v ∧ w.grownBy w' (some b) := by
  obtain ⟨t1, ht1⟩ : ∃ t1, t1 = t.dropWhile wht := ⟨_, rfl⟩
  have P1 := Lib.hid (pass_r _ wht do_white b s t x v w hR hs)
  have HH := Lib.hid (fun W h => here_r _ isq do_v1 b s t1 x v W h hs)
  have P2 := Lib.hid (fun W h => pass_r _ vch do_v3 b s t1 x v W h hs)
  rw [← ht1] at hq P1 ⊢
  rw [hq] at HH
  clear ht1 hq hR
  go_enter Tryz.func100, Tryz.ntmps100
  go_wp2_with (first | (go_at_call 64; (with_reducible refine P1.out.mono ?_); clear P1; rintro e w1 ⟨rfl, hR1, hg1⟩) | (go_at_call 79; (with_reducible refine (HH.out _ hR1).mono ?_); rintro e w2 ⟨rfl, hq2⟩; have hR2 := hR1.of_bl hq2.bl; have hg2 := gb_trans hg1 (gb_qt (b := some b) hq2)) | (go_at_call 64; (with_reducible refine (P2.out _ hR2).mono ?_); rintro e w3 ⟨rfl, hR3, hg3⟩))
  go_ret
  exact ⟨rfl, hR3, gb_trans hg2 hg3⟩

set_option maxHeartbeats 2000000 in
theorem value_quoted (b : Nat) (s t r u x : List UInt8) (q z : UInt8) (v : Value) (w : World) (hR : Rr w b s t x v) (hs : s.length ≤ 1099511627776) (ht : t.dropWhile wht = q :: r) (hq : hd isq (q :: r) = true) (hu : r.dropWhile (· != q) = z :: u) :
    Calls Tryz.prog 100 #[.pointer (some ⟨b, 0, none⟩)] w fun e w' => e = .returned (.string ⟨(r.takeWhile (· != q)).toArray⟩) ∧ Rr w' b s u x v ∧ w.grownBy w' (some b) := by
  have P1 := Lib.hid (pass_r _ wht do_white b s t x v w hR hs)
  have HH := Lib.hid (fun W h => here_r _ isq do_v1 b s (q :: r) x v W h hs)
  have N1 := Lib.hid (fun W h => need_r b s q r x v W h hs)
  have P2 := Lib.hid (fun (n : Nat) W h1 (hne : n ≠ b) h => pass_r0 _ _ _ _ (do_v2 q n) b s r x v W h1 (fun W u h => by rw [World.cell?_setCell_other _ _ _ _ (by simp [hne])]; exact h) h hs)
  have N2 := Lib.hid (fun W h => need_r b s z u x v W h hs)
  rw [ht] at P1
  rw [hq] at HH
  rw [hu] at P2
  obtain ⟨a, ha⟩ : ∃ a, a = r.takeWhile (· != q) := ⟨_, rfl⟩
  rw [← ha] at P2 ⊢
  clear ht hq hR hu ha
  go_enter Tryz.func100, Tryz.ntmps100
  go_wp2_with (first | (go_at_call 64; (with_reducible refine P1.out.mono ?_); clear P1; rintro e w1 ⟨rfl, hR1, hg1⟩) | (go_at_call 79; (with_reducible refine (HH.out _ hR1).mono ?_); rintro e w2 ⟨rfl, hq2⟩; have hR2 := hR1.of_bl hq2.bl; have hg2 := gb_trans hg1 (gb_qt (b := some b) hq2)) | (go_at_call 97; (with_reducible refine (N1.out _ hR2).mono ?_); clear N1; rintro e w3 ⟨rfl, hR3, hg3⟩; have hg3' := gb_trans hg2 hg3; have hP := Lib.hid (P2.out w3.heap.size (w3.alloc (.cells #[.int .u8 (q.toNat : Int)] 5)) (by simp) (Nat.ne_of_gt hR3.rk.lt) (hR3.of_bl ((Bl.refl _).alloc _)))) | (go_at_call 64; (with_reducible refine hP.out.mono ?_); rintro e w4 ⟨rfl, hR4, hg4⟩; have hg4' := gb_trans (gb_trans hg3' (alloc_gb w3 _ (some b))) hg4) | (go_at_call 97; (with_reducible refine (N2.out _ hR4).mono ?_); rintro e w5 ⟨rfl, hR5, hg5⟩))
  go_ret
  exact ⟨rfl, hR5, gb_trans hg4' hg5⟩
set_option maxHeartbeats 2000000 in
theorem value_open (b : Nat) (s t r x : List UInt8) (q : UInt8) (v : Value) (w : World) (hR : Rr w b s t x v) (hs : s.length ≤ 1099511627776) (ht : t.dropWhile wht = q :: r) (hq : hd isq (q :: r) = true) (hu : r.dropWhile (· != q) = []) :
    Calls Tryz.prog 100 #[.pointer (some ⟨b, 0, none⟩)] w fun e w' => e = .panicked OPN ∧ (∃ t', Rr w' b s t' x v) ∧ w.grownBy w' (some b) := by
  have P1 := Lib.hid (pass_r _ wht do_white b s t x v w hR hs)
  have HH := Lib.hid (fun W h => here_r _ isq do_v1 b s (q :: r) x v W h hs)
  have N1 := Lib.hid (fun W h => need_r b s q r x v W h hs)
  have P2 := Lib.hid (fun (n : Nat) W h1 (hne : n ≠ b) h => pass_r0 _ _ _ _ (do_v2 q n) b s r x v W h1 (fun W u h => by rw [World.cell?_setCell_other _ _ _ _ (by simp [hne])]; exact h) h hs)
  have N2 := Lib.hid (fun W h => need_end b s x v W h)
  rw [ht] at P1
  rw [hq] at HH
  rw [hu] at P2
  obtain ⟨a, ha⟩ : ∃ a, a = r.takeWhile (· != q) := ⟨_, rfl⟩
  rw [← ha] at P2
  clear ht hq hR hu ha
  go_enter Tryz.func100, Tryz.ntmps100
  go_wp2_with (first | (go_at_call 64; (with_reducible refine P1.out.mono ?_); clear P1; rintro e w1 ⟨rfl, hR1, hg1⟩) | (go_at_call 79; (with_reducible refine (HH.out _ hR1).mono ?_); rintro e w2 ⟨rfl, hq2⟩; have hR2 := hR1.of_bl hq2.bl; have hg2 := gb_trans hg1 (gb_qt (b := some b) hq2)) | (go_at_call 97; (with_reducible refine (N1.out _ hR2).mono ?_); clear N1; rintro e w3 ⟨rfl, hR3, hg3⟩; have hg3' := gb_trans hg2 hg3; have hP := Lib.hid (P2.out w3.heap.size (w3.alloc (.cells #[.int .u8 (q.toNat : Int)] 5)) (by simp) (Nat.ne_of_gt hR3.rk.lt) (hR3.of_bl ((Bl.refl _).alloc _)))) | (go_at_call 64; (with_reducible refine hP.out.mono ?_); rintro e w4 ⟨rfl, hR4, hg4⟩; have hg4' := gb_trans (gb_trans hg3' (alloc_gb w3 _ (some b))) hg4) | (go_at_call 97; (with_reducible refine (N2.out _ hR4).mono ?_); rintro e w5 ⟨rfl, hq5⟩))
  exact ⟨rfl, rfl, ⟨_, hR4.of_bl hq5.bl⟩, gb_trans hg4' (gb_qt hq5)⟩

theorem value_yes (b : Nat) (s t a u x : List UInt8) (v : Value) (w : World) (hR : Rr w b s t x v) (hs : s.length ≤ 1099511627776) (hv : valOf t = some (a, u)) :
    Calls Tryz.prog 100 #[.pointer (some ⟨b, 0, none⟩)] w fun e w' => e = .returned (.string ⟨a.toArray⟩) ∧ Rr w' b s u x v ∧ w.grownBy w' (some b) := by
  have hp := value_plain b s t x v w hR hs
  unfold valOf at hv
  split at hv
  · rename_i e
    simp only [Option.some.injEq, Prod.mk.injEq] at hv; obtain ⟨rfl, rfl⟩ := hv
    rw [e] at hp
    exact hp rfl
  · rename_i q r e
    split at hv
    · rename_i hq
      have hq' := (hd_isq q r).2 hq
      split at hv
      · cases hv
      · rename_i z u' e2
        simp only [Option.some.injEq, Prod.mk.injEq] at hv; obtain ⟨rfl, rfl⟩ := hv
        exact value_quoted b s t r u' x q z v w hR hs e hq' e2
    · rename_i hq
      have hq' : hd isq (q :: r) = false := by
        rw [← hd_isq q r] at hq; simpa using hq
      simp only [Option.some.injEq, Prod.mk.injEq] at hv; obtain ⟨rfl, rfl⟩ := hv
      rw [e] at hp
      exact hp hq'
theorem value_no (b : Nat) (s t x : List UInt8) (v : Value) (w : World) (hR : Rr w b s t x v) (hs : s.length ≤ 1099511627776) (hv : valOf t = none) :
    Calls Tryz.prog 100 #[.pointer (some ⟨b, 0, none⟩)] w fun e w' => e = .panicked OPN ∧ (∃ t', Rr w' b s t' x v) ∧ w.grownBy w' (some b) := by
  unfold valOf at hv
  split at hv
  · cases hv
  · rename_i q r e
    split at hv
    · rename_i hq
      have hq' := (hd_isq q r).2 hq
      split at hv
      · rename_i e2
        exact value_open b s t r x q v w hR hs e hq' e2
      · cases hv
    · cases hv
end Go.Proofs.YtoaecehkmoehjaaGreatDoor

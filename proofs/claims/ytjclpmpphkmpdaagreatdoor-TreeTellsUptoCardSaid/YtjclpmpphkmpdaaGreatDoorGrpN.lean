/- Tokens: step: tags. · Tokens: step: what is passed. -/
import Derived.Test.YtjclpmpphkmpdaaGreatDoorTokP
namespace Go.Proofs.YtjclpmpphkmpdaaGreatDoor
open Go.RowKit


set_option maxRecDepth 100000 in
set_option maxHeartbeats 4000000 in
theorem step_open (b : Nat) (s t x : List UInt8) (l : List Tok) (v : Value) (w : World) (hR : Rr w b s t x v) (hT : TkO w (b + 1) v l) (hs : s.length ≤ 1073741824) (hx : x.length ≤ 1073741824) (hl : l.length ≤ 1073741823) (hE : ES w) (hbE : 1 < b) (_hM : ML w) (_hbM : 0 < b) (c : UInt8) (r : List UInt8) (HT : Hid (t = c :: r))
    (h1 : pre [60] t = true) (h6 : hd ltr (List.drop 1 t) = true) :
    Calls Tryz.prog 62 #[.pointer (some ⟨b, 0, none⟩)] w fun e w' => StEnd w b s x l (opR r x l) e w' := by
  have hbw := hR.rk.lt
  have BG := Lib.hid (fun p W h => begins_r p b s t x v W h (by omega))
  have L1 := Lib.hid (fun W h => letter1 b s t x v W h (by omega))
  have L2 := Lib.hid (fun W h => letter2 b s t x v W h (by omega))
  have hRq := hR
  have hQ := Bl.refl w
  rw [List.drop_one] at h6 L1
  have TG := Lib.hid (show ∀ W, RT W b s t x l → ES W → Calls Tryz.prog 71 #[.pointer (some ⟨b, 0, none⟩), .int .i64 2, .int .i64 1] W fun e w' => StEnd W b s x l (opR r x l) e w' from fun W h1 h2 => tag_open b s r x c l W (HT.out ▸ h1) hs hx hl h2 hbE)
  cases hO : opR r x l with
  | none =>
    rw [hO] at TG
    clear hO
    go_enter Tryz.func62, Tryz.ntmps62
    go_wp2_with (first | (go_at_call 67; (with_reducible refine (BG.out _ _ hRq).mono ?_); rintro e wq ⟨rfl, hqq⟩; replace hRq := hRq.of_bl hqq.bl; replace hQ := hQ.trans hqq.bl; have hRTq : RT _ b s t x l := ⟨v, hRq, hT.of_bl hQ⟩) | (go_at_call 70; (with_reducible refine (L1.out _ hRq).mono ?_); rintro e wq ⟨rfl, hqq⟩; replace hRq := hRq.of_bl hqq.bl; replace hQ := hQ.trans hqq.bl; have hRTq : RT _ b s t x l := ⟨v, hRq, hT.of_bl hQ⟩) | (go_at_call 70; (with_reducible refine (L2.out _ hRq).mono ?_); rintro e wq ⟨rfl, hqq⟩; replace hRq := hRq.of_bl hqq.bl; replace hQ := hQ.trans hqq.bl; have hRTq : RT _ b s t x l := ⟨v, hRq, hT.of_bl hQ⟩) | (go_at_call 71; (with_reducible refine (TG.out _ hRTq (hE.of_bl hQ)).mono ?_); rintro e wz ⟨hBz, hFz, rfl, hz⟩))
    exact ⟨rfl, (hQ.to_below b (Nat.le_of_lt hbw)).trans hBz, (FrT.of_gb (gb_bl hQ)).trans hFz, rfl, hz⟩
  | some q =>
    obtain ⟨u, x', l'⟩ := q
    rw [hO] at TG
    clear hO
    go_enter Tryz.func62, Tryz.ntmps62
    go_wp2_with (first | (go_at_call 67; (with_reducible refine (BG.out _ _ hRq).mono ?_); rintro e wq ⟨rfl, hqq⟩; replace hRq := hRq.of_bl hqq.bl; replace hQ := hQ.trans hqq.bl; have hRTq : RT _ b s t x l := ⟨v, hRq, hT.of_bl hQ⟩) | (go_at_call 70; (with_reducible refine (L1.out _ hRq).mono ?_); rintro e wq ⟨rfl, hqq⟩; replace hRq := hRq.of_bl hqq.bl; replace hQ := hQ.trans hqq.bl; have hRTq : RT _ b s t x l := ⟨v, hRq, hT.of_bl hQ⟩) | (go_at_call 70; (with_reducible refine (L2.out _ hRq).mono ?_); rintro e wq ⟨rfl, hqq⟩; replace hRq := hRq.of_bl hqq.bl; replace hQ := hQ.trans hqq.bl; have hRTq : RT _ b s t x l := ⟨v, hRq, hT.of_bl hQ⟩) | (go_at_call 71; (with_reducible refine (TG.out _ hRTq (hE.of_bl hQ)).mono ?_); rintro e wz ⟨hBz, hFz, rfl, hz⟩))
    go_end0
    exact ⟨(hQ.to_below b (Nat.le_of_lt hbw)).trans hBz, (FrT.of_gb (gb_bl hQ)).trans hFz, rfl, hz⟩


set_option maxRecDepth 100000 in
set_option maxHeartbeats 4000000 in
theorem step_close (b : Nat) (s t x : List UInt8) (l : List Tok) (v : Value) (w : World) (hR : Rr w b s t x v) (hT : TkO w (b + 1) v l) (hs : s.length ≤ 1073741824) (hx : x.length ≤ 1073741824) (hl : l.length ≤ 1073741823) (hE : ES w) (hbE : 1 < b) (hM : ML w) (hbM : 0 < b) (c d : UInt8) (r : List UInt8) (HT : Hid (t = c :: d :: r))
    (h1 : pre [60] t = true) (h2 : pre [60, 47] t = true) (h6 : hd ltr (List.drop 1 t) = false) (h7 : hd ltr (List.drop 2 t) = true) :
    Calls Tryz.prog 62 #[.pointer (some ⟨b, 0, none⟩)] w fun e w' => StEnd w b s x l (clR r x l) e w' := by
  have hbw := hR.rk.lt
  have BG := Lib.hid (fun p W h => begins_r p b s t x v W h (by omega))
  have L1 := Lib.hid (fun W h => letter1 b s t x v W h (by omega))
  have L2 := Lib.hid (fun W h => letter2 b s t x v W h (by omega))
  have hRq := hR
  have hQ := Bl.refl w
  rw [List.drop_one] at h6 L1
  have TG := Lib.hid (show ∀ W, RT W b s t x l → ES W → ML W → Calls Tryz.prog 71 #[.pointer (some ⟨b, 0, none⟩), .int .i64 3, .int .i64 2] W fun e w' => StEnd W b s x l (clR r x l) e w' from fun W h1 h2 h3 => tag_close b s r x c d l W (HT.out ▸ h1) hs hx hl h2 hbE h3 hbM)
  cases hO : clR r x l with
  | none =>
    rw [hO] at TG
    clear hO
    go_enter Tryz.func62, Tryz.ntmps62
    go_wp2_with (first | (go_at_call 67; (with_reducible refine (BG.out _ _ hRq).mono ?_); rintro e wq ⟨rfl, hqq⟩; replace hRq := hRq.of_bl hqq.bl; replace hQ := hQ.trans hqq.bl; have hRTq : RT _ b s t x l := ⟨v, hRq, hT.of_bl hQ⟩) | (go_at_call 70; (with_reducible refine (L1.out _ hRq).mono ?_); rintro e wq ⟨rfl, hqq⟩; replace hRq := hRq.of_bl hqq.bl; replace hQ := hQ.trans hqq.bl; have hRTq : RT _ b s t x l := ⟨v, hRq, hT.of_bl hQ⟩) | (go_at_call 70; (with_reducible refine (L2.out _ hRq).mono ?_); rintro e wq ⟨rfl, hqq⟩; replace hRq := hRq.of_bl hqq.bl; replace hQ := hQ.trans hqq.bl; have hRTq : RT _ b s t x l := ⟨v, hRq, hT.of_bl hQ⟩) | (go_at_call 71; (with_reducible refine (TG.out _ hRTq (hE.of_bl hQ) (hM.of_bl hQ)).mono ?_); rintro e wz ⟨hBz, hFz, rfl, hz⟩))
    exact ⟨rfl, (hQ.to_below b (Nat.le_of_lt hbw)).trans hBz, (FrT.of_gb (gb_bl hQ)).trans hFz, rfl, hz⟩
  | some q =>
    obtain ⟨u, x', l'⟩ := q
    rw [hO] at TG
    clear hO
    go_enter Tryz.func62, Tryz.ntmps62
    go_wp2_with (first | (go_at_call 67; (with_reducible refine (BG.out _ _ hRq).mono ?_); rintro e wq ⟨rfl, hqq⟩; replace hRq := hRq.of_bl hqq.bl; replace hQ := hQ.trans hqq.bl; have hRTq : RT _ b s t x l := ⟨v, hRq, hT.of_bl hQ⟩) | (go_at_call 70; (with_reducible refine (L1.out _ hRq).mono ?_); rintro e wq ⟨rfl, hqq⟩; replace hRq := hRq.of_bl hqq.bl; replace hQ := hQ.trans hqq.bl; have hRTq : RT _ b s t x l := ⟨v, hRq, hT.of_bl hQ⟩) | (go_at_call 70; (with_reducible refine (L2.out _ hRq).mono ?_); rintro e wq ⟨rfl, hqq⟩; replace hRq := hRq.of_bl hqq.bl; replace hQ := hQ.trans hqq.bl; have hRTq : RT _ b s t x l := ⟨v, hRq, hT.of_bl hQ⟩) | (go_at_call 71; (with_reducible refine (TG.out _ hRTq (hE.of_bl hQ) (hM.of_bl hQ)).mono ?_); rintro e wz ⟨hBz, hFz, rfl, hz⟩))
    go_end0
    exact ⟨(hQ.to_below b (Nat.le_of_lt hbw)).trans hBz, (FrT.of_gb (gb_bl hQ)).trans hFz, rfl, hz⟩

end Go.Proofs.YtjclpmpphkmpdaaGreatDoor

namespace Go.Proofs.YtjclpmpphkmpdaaGreatDoor
open Go.RowKit


set_option maxRecDepth 100000 in
set_option maxHeartbeats 4000000 in
theorem step_com (b : Nat) (s t x : List UInt8) (l : List Tok) (v : Value) (w : World) (hR : Rr w b s t x v) (hT : TkO w (b + 1) v l) (hs : s.length ≤ 1073741824) (_hx : x.length ≤ 1073741824) (_hl : l.length ≤ 1073741823) (_hE : ES w) (_hbE : 1 < b) (hM : ML w) (_hbM : 0 < b)
    (h1 : pre [60] t = true) (h2 : pre [60, 47] t = false) (h3 : pre [60, 33, 45, 45] t = true) (h6 : hd ltr (List.drop 1 t) = false) :
    Calls Tryz.prog 62 #[.pointer (some ⟨b, 0, none⟩)] w fun e w' => StEnd w b s x l ((cutS [45, 45, 62] (t.drop 2)).map fun u => (u, x, l)) e w' := by
  have hbw := hR.rk.lt
  have BG := Lib.hid (fun p W h => begins_r p b s t x v W h (by omega))
  have L1 := Lib.hid (fun W h => letter1 b s t x v W h (by omega))
  have L2 := Lib.hid (fun W h => letter2 b s t x v W h (by omega))
  have hRq := hR
  have hQ := Bl.refl w
  rw [List.drop_one] at h6 L1
  cases hO : cutS [45, 45, 62] (t.drop 2) with
  | none =>
    have TC := Lib.hid (show ∀ W, Rr W b s t x v → ML W → Calls Tryz.prog 72 #[.pointer (some ⟨b, 0, none⟩), .string ⟨#[45, 45, 62]⟩, .int .i64 2] W fun e w' => e = .panicked OPN ∧ Qt W w' from fun W h1 h2 => to_no [45, 45, 62] (by simp) (by simp) 2 (by omega) b s t x v W h1 (by omega) h2 hO)
    clear hO
    go_enter Tryz.func62, Tryz.ntmps62
    go_wp2_with (first | (go_at_call 67; (with_reducible refine (BG.out _ _ hRq).mono ?_); rintro e wq ⟨rfl, hqq⟩; replace hRq := hRq.of_bl hqq.bl; replace hQ := hQ.trans hqq.bl; have hRTq : RT _ b s t x l := ⟨v, hRq, hT.of_bl hQ⟩) | (go_at_call 70; (with_reducible refine (L1.out _ hRq).mono ?_); rintro e wq ⟨rfl, hqq⟩; replace hRq := hRq.of_bl hqq.bl; replace hQ := hQ.trans hqq.bl; have hRTq : RT _ b s t x l := ⟨v, hRq, hT.of_bl hQ⟩) | (go_at_call 70; (with_reducible refine (L2.out _ hRq).mono ?_); rintro e wq ⟨rfl, hqq⟩; replace hRq := hRq.of_bl hqq.bl; replace hQ := hQ.trans hqq.bl; have hRTq : RT _ b s t x l := ⟨v, hRq, hT.of_bl hQ⟩) | (go_at_call 72; (with_reducible refine (TC.out _ hRq (hM.of_bl hQ)).mono ?_); rintro e wz ⟨rfl, hqz⟩))
    have hgw := gb_bl (b := some b) (hQ.trans hqz.bl)
    exact ⟨rfl, below_gb hgw (Nat.le_refl _) (Nat.le_of_lt hbw), FrT.of_gb hgw, rfl, t, v, hRq.of_bl hqz.bl, hT.of_gb hgw (Nat.lt_succ_self _)⟩
  | some u =>
    have TC := Lib.hid (show ∀ W, Rr W b s t x v → ML W → Calls Tryz.prog 72 #[.pointer (some ⟨b, 0, none⟩), .string ⟨#[45, 45, 62]⟩, .int .i64 2] W fun e w' => e = .returned (.tuple #[]) ∧ Rr w' b s u x v ∧ W.grownBy w' (some b) from fun W h1 h2 => to_yes [45, 45, 62] (by simp) (by simp) 2 (by omega) b s t x u v W h1 (by omega) h2 hO)
    clear hO
    go_enter Tryz.func62, Tryz.ntmps62
    go_wp2_with (first | (go_at_call 67; (with_reducible refine (BG.out _ _ hRq).mono ?_); rintro e wq ⟨rfl, hqq⟩; replace hRq := hRq.of_bl hqq.bl; replace hQ := hQ.trans hqq.bl; have hRTq : RT _ b s t x l := ⟨v, hRq, hT.of_bl hQ⟩) | (go_at_call 70; (with_reducible refine (L1.out _ hRq).mono ?_); rintro e wq ⟨rfl, hqq⟩; replace hRq := hRq.of_bl hqq.bl; replace hQ := hQ.trans hqq.bl; have hRTq : RT _ b s t x l := ⟨v, hRq, hT.of_bl hQ⟩) | (go_at_call 70; (with_reducible refine (L2.out _ hRq).mono ?_); rintro e wq ⟨rfl, hqq⟩; replace hRq := hRq.of_bl hqq.bl; replace hQ := hQ.trans hqq.bl; have hRTq : RT _ b s t x l := ⟨v, hRq, hT.of_bl hQ⟩) | (go_at_call 72; (with_reducible refine (TC.out _ hRq (hM.of_bl hQ)).mono ?_); rintro e wz ⟨rfl, hRz, hgz⟩))
    go_end0
    have hgw := gb_trans (gb_bl (b := some b) hQ) hgz
    exact ⟨below_gb hgw (Nat.le_refl _) (Nat.le_of_lt hbw), FrT.of_gb hgw, rfl, v, hRz, hT.of_gb hgw (Nat.lt_succ_self _)⟩


set_option maxRecDepth 100000 in
set_option maxHeartbeats 4000000 in
theorem step_s33 (b : Nat) (s t x : List UInt8) (l : List Tok) (v : Value) (w : World) (hR : Rr w b s t x v) (hT : TkO w (b + 1) v l) (hs : s.length ≤ 1073741824) (_hx : x.length ≤ 1073741824) (_hl : l.length ≤ 1073741823) (_hE : ES w) (_hbE : 1 < b) (hM : ML w) (_hbM : 0 < b)
    (h1 : pre [60] t = true) (h2 : pre [60, 47] t = false) (h3 : pre [60, 33, 45, 45] t = false) (h4 : pre [60, 33] t = true) (h6 : hd ltr (List.drop 1 t) = false) :
    Calls Tryz.prog 62 #[.pointer (some ⟨b, 0, none⟩)] w fun e w' => StEnd w b s x l ((cutS [62] (t.drop 0)).map fun u => (u, x, l)) e w' := by
  have hbw := hR.rk.lt
  have BG := Lib.hid (fun p W h => begins_r p b s t x v W h (by omega))
  have L1 := Lib.hid (fun W h => letter1 b s t x v W h (by omega))
  have L2 := Lib.hid (fun W h => letter2 b s t x v W h (by omega))
  have hRq := hR
  have hQ := Bl.refl w
  rw [List.drop_one] at h6 L1
  cases hO : cutS [62] (t.drop 0) with
  | none =>
    have TC := Lib.hid (show ∀ W, Rr W b s t x v → ML W → Calls Tryz.prog 72 #[.pointer (some ⟨b, 0, none⟩), .string ⟨#[62]⟩, .int .i64 0] W fun e w' => e = .panicked OPN ∧ Qt W w' from fun W h1 h2 => to_no [62] (by simp) (by simp) 0 (by omega) b s t x v W h1 (by omega) h2 hO)
    clear hO
    go_enter Tryz.func62, Tryz.ntmps62
    go_wp2_with (first | (go_at_call 67; (with_reducible refine (BG.out _ _ hRq).mono ?_); rintro e wq ⟨rfl, hqq⟩; replace hRq := hRq.of_bl hqq.bl; replace hQ := hQ.trans hqq.bl; have hRTq : RT _ b s t x l := ⟨v, hRq, hT.of_bl hQ⟩) | (go_at_call 70; (with_reducible refine (L1.out _ hRq).mono ?_); rintro e wq ⟨rfl, hqq⟩; replace hRq := hRq.of_bl hqq.bl; replace hQ := hQ.trans hqq.bl; have hRTq : RT _ b s t x l := ⟨v, hRq, hT.of_bl hQ⟩) | (go_at_call 70; (with_reducible refine (L2.out _ hRq).mono ?_); rintro e wq ⟨rfl, hqq⟩; replace hRq := hRq.of_bl hqq.bl; replace hQ := hQ.trans hqq.bl; have hRTq : RT _ b s t x l := ⟨v, hRq, hT.of_bl hQ⟩) | (go_at_call 72; (with_reducible refine (TC.out _ hRq (hM.of_bl hQ)).mono ?_); rintro e wz ⟨rfl, hqz⟩))
    have hgw := gb_bl (b := some b) (hQ.trans hqz.bl)
    exact ⟨rfl, below_gb hgw (Nat.le_refl _) (Nat.le_of_lt hbw), FrT.of_gb hgw, rfl, t, v, hRq.of_bl hqz.bl, hT.of_gb hgw (Nat.lt_succ_self _)⟩
  | some u =>
    have TC := Lib.hid (show ∀ W, Rr W b s t x v → ML W → Calls Tryz.prog 72 #[.pointer (some ⟨b, 0, none⟩), .string ⟨#[62]⟩, .int .i64 0] W fun e w' => e = .returned (.tuple #[]) ∧ Rr w' b s u x v ∧ W.grownBy w' (some b) from fun W h1 h2 => to_yes [62] (by simp) (by simp) 0 (by omega) b s t x u v W h1 (by omega) h2 hO)
    clear hO
    go_enter Tryz.func62, Tryz.ntmps62
    go_wp2_with (first | (go_at_call 67; (with_reducible refine (BG.out _ _ hRq).mono ?_); rintro e wq ⟨rfl, hqq⟩; replace hRq := hRq.of_bl hqq.bl; replace hQ := hQ.trans hqq.bl; have hRTq : RT _ b s t x l := ⟨v, hRq, hT.of_bl hQ⟩) | (go_at_call 70; (with_reducible refine (L1.out _ hRq).mono ?_); rintro e wq ⟨rfl, hqq⟩; replace hRq := hRq.of_bl hqq.bl; replace hQ := hQ.trans hqq.bl; have hRTq : RT _ b s t x l := ⟨v, hRq, hT.of_bl hQ⟩) | (go_at_call 70; (with_reducible refine (L2.out _ hRq).mono ?_); rintro e wq ⟨rfl, hqq⟩; replace hRq := hRq.of_bl hqq.bl; replace hQ := hQ.trans hqq.bl; have hRTq : RT _ b s t x l := ⟨v, hRq, hT.of_bl hQ⟩) | (go_at_call 72; (with_reducible refine (TC.out _ hRq (hM.of_bl hQ)).mono ?_); rintro e wz ⟨rfl, hRz, hgz⟩))
    go_end0
    have hgw := gb_trans (gb_bl (b := some b) hQ) hgz
    exact ⟨below_gb hgw (Nat.le_refl _) (Nat.le_of_lt hbw), FrT.of_gb hgw, rfl, v, hRz, hT.of_gb hgw (Nat.lt_succ_self _)⟩


set_option maxRecDepth 100000 in
set_option maxHeartbeats 4000000 in
theorem step_s63 (b : Nat) (s t x : List UInt8) (l : List Tok) (v : Value) (w : World) (hR : Rr w b s t x v) (hT : TkO w (b + 1) v l) (hs : s.length ≤ 1073741824) (_hx : x.length ≤ 1073741824) (_hl : l.length ≤ 1073741823) (_hE : ES w) (_hbE : 1 < b) (hM : ML w) (_hbM : 0 < b)
    (h1 : pre [60] t = true) (h2 : pre [60, 47] t = false) (h3 : pre [60, 33, 45, 45] t = false) (h4 : pre [60, 33] t = false) (h5 : pre [60, 63] t = true) (h6 : hd ltr (List.drop 1 t) = false) :
    Calls Tryz.prog 62 #[.pointer (some ⟨b, 0, none⟩)] w fun e w' => StEnd w b s x l ((cutS [62] (t.drop 0)).map fun u => (u, x, l)) e w' := by
  have hbw := hR.rk.lt
  have BG := Lib.hid (fun p W h => begins_r p b s t x v W h (by omega))
  have L1 := Lib.hid (fun W h => letter1 b s t x v W h (by omega))
  have L2 := Lib.hid (fun W h => letter2 b s t x v W h (by omega))
  have hRq := hR
  have hQ := Bl.refl w
  rw [List.drop_one] at h6 L1
  cases hO : cutS [62] (t.drop 0) with
  | none =>
    have TC := Lib.hid (show ∀ W, Rr W b s t x v → ML W → Calls Tryz.prog 72 #[.pointer (some ⟨b, 0, none⟩), .string ⟨#[62]⟩, .int .i64 0] W fun e w' => e = .panicked OPN ∧ Qt W w' from fun W h1 h2 => to_no [62] (by simp) (by simp) 0 (by omega) b s t x v W h1 (by omega) h2 hO)
    clear hO
    go_enter Tryz.func62, Tryz.ntmps62
    go_wp2_with (first | (go_at_call 67; (with_reducible refine (BG.out _ _ hRq).mono ?_); rintro e wq ⟨rfl, hqq⟩; replace hRq := hRq.of_bl hqq.bl; replace hQ := hQ.trans hqq.bl; have hRTq : RT _ b s t x l := ⟨v, hRq, hT.of_bl hQ⟩) | (go_at_call 70; (with_reducible refine (L1.out _ hRq).mono ?_); rintro e wq ⟨rfl, hqq⟩; replace hRq := hRq.of_bl hqq.bl; replace hQ := hQ.trans hqq.bl; have hRTq : RT _ b s t x l := ⟨v, hRq, hT.of_bl hQ⟩) | (go_at_call 70; (with_reducible refine (L2.out _ hRq).mono ?_); rintro e wq ⟨rfl, hqq⟩; replace hRq := hRq.of_bl hqq.bl; replace hQ := hQ.trans hqq.bl; have hRTq : RT _ b s t x l := ⟨v, hRq, hT.of_bl hQ⟩) | (go_at_call 72; (with_reducible refine (TC.out _ hRq (hM.of_bl hQ)).mono ?_); rintro e wz ⟨rfl, hqz⟩))
    have hgw := gb_bl (b := some b) (hQ.trans hqz.bl)
    exact ⟨rfl, below_gb hgw (Nat.le_refl _) (Nat.le_of_lt hbw), FrT.of_gb hgw, rfl, t, v, hRq.of_bl hqz.bl, hT.of_gb hgw (Nat.lt_succ_self _)⟩
  | some u =>
    have TC := Lib.hid (show ∀ W, Rr W b s t x v → ML W → Calls Tryz.prog 72 #[.pointer (some ⟨b, 0, none⟩), .string ⟨#[62]⟩, .int .i64 0] W fun e w' => e = .returned (.tuple #[]) ∧ Rr w' b s u x v ∧ W.grownBy w' (some b) from fun W h1 h2 => to_yes [62] (by simp) (by simp) 0 (by omega) b s t x u v W h1 (by omega) h2 hO)
    clear hO
    go_enter Tryz.func62, Tryz.ntmps62
    go_wp2_with (first | (go_at_call 67; (with_reducible refine (BG.out _ _ hRq).mono ?_); rintro e wq ⟨rfl, hqq⟩; replace hRq := hRq.of_bl hqq.bl; replace hQ := hQ.trans hqq.bl; have hRTq : RT _ b s t x l := ⟨v, hRq, hT.of_bl hQ⟩) | (go_at_call 70; (with_reducible refine (L1.out _ hRq).mono ?_); rintro e wq ⟨rfl, hqq⟩; replace hRq := hRq.of_bl hqq.bl; replace hQ := hQ.trans hqq.bl; have hRTq : RT _ b s t x l := ⟨v, hRq, hT.of_bl hQ⟩) | (go_at_call 70; (with_reducible refine (L2.out _ hRq).mono ?_); rintro e wq ⟨rfl, hqq⟩; replace hRq := hRq.of_bl hqq.bl; replace hQ := hQ.trans hqq.bl; have hRTq : RT _ b s t x l := ⟨v, hRq, hT.of_bl hQ⟩) | (go_at_call 72; (with_reducible refine (TC.out _ hRq (hM.of_bl hQ)).mono ?_); rintro e wz ⟨rfl, hRz, hgz⟩))
    go_end0
    have hgw := gb_trans (gb_bl (b := some b) hQ) hgz
    exact ⟨below_gb hgw (Nat.le_refl _) (Nat.le_of_lt hbw), FrT.of_gb hgw, rfl, v, hRz, hT.of_gb hgw (Nat.lt_succ_self _)⟩


set_option maxRecDepth 100000 in
set_option maxHeartbeats 4000000 in
theorem step_s47 (b : Nat) (s t x : List UInt8) (l : List Tok) (v : Value) (w : World) (hR : Rr w b s t x v) (hT : TkO w (b + 1) v l) (hs : s.length ≤ 1073741824) (_hx : x.length ≤ 1073741824) (_hl : l.length ≤ 1073741823) (_hE : ES w) (_hbE : 1 < b) (hM : ML w) (_hbM : 0 < b)
    (h1 : pre [60] t = true) (h2 : pre [60, 47] t = true) (h3 : pre [60, 33, 45, 45] t = false) (h4 : pre [60, 33] t = false) (h5 : pre [60, 63] t = false) (h6 : hd ltr (List.drop 1 t) = false) (h7 : hd ltr (List.drop 2 t) = false) :
    Calls Tryz.prog 62 #[.pointer (some ⟨b, 0, none⟩)] w fun e w' => StEnd w b s x l ((cutS [62] (t.drop 0)).map fun u => (u, x, l)) e w' := by
  have hbw := hR.rk.lt
  have BG := Lib.hid (fun p W h => begins_r p b s t x v W h (by omega))
  have L1 := Lib.hid (fun W h => letter1 b s t x v W h (by omega))
  have L2 := Lib.hid (fun W h => letter2 b s t x v W h (by omega))
  have hRq := hR
  have hQ := Bl.refl w
  rw [List.drop_one] at h6 L1
  cases hO : cutS [62] (t.drop 0) with
  | none =>
    have TC := Lib.hid (show ∀ W, Rr W b s t x v → ML W → Calls Tryz.prog 72 #[.pointer (some ⟨b, 0, none⟩), .string ⟨#[62]⟩, .int .i64 0] W fun e w' => e = .panicked OPN ∧ Qt W w' from fun W h1 h2 => to_no [62] (by simp) (by simp) 0 (by omega) b s t x v W h1 (by omega) h2 hO)
    clear hO
    go_enter Tryz.func62, Tryz.ntmps62
    go_wp2_with (first | (go_at_call 67; (with_reducible refine (BG.out _ _ hRq).mono ?_); rintro e wq ⟨rfl, hqq⟩; replace hRq := hRq.of_bl hqq.bl; replace hQ := hQ.trans hqq.bl; have hRTq : RT _ b s t x l := ⟨v, hRq, hT.of_bl hQ⟩) | (go_at_call 70; (with_reducible refine (L1.out _ hRq).mono ?_); rintro e wq ⟨rfl, hqq⟩; replace hRq := hRq.of_bl hqq.bl; replace hQ := hQ.trans hqq.bl; have hRTq : RT _ b s t x l := ⟨v, hRq, hT.of_bl hQ⟩) | (go_at_call 70; (with_reducible refine (L2.out _ hRq).mono ?_); rintro e wq ⟨rfl, hqq⟩; replace hRq := hRq.of_bl hqq.bl; replace hQ := hQ.trans hqq.bl; have hRTq : RT _ b s t x l := ⟨v, hRq, hT.of_bl hQ⟩) | (go_at_call 72; (with_reducible refine (TC.out _ hRq (hM.of_bl hQ)).mono ?_); rintro e wz ⟨rfl, hqz⟩))
    have hgw := gb_bl (b := some b) (hQ.trans hqz.bl)
    exact ⟨rfl, below_gb hgw (Nat.le_refl _) (Nat.le_of_lt hbw), FrT.of_gb hgw, rfl, t, v, hRq.of_bl hqz.bl, hT.of_gb hgw (Nat.lt_succ_self _)⟩
  | some u =>
    have TC := Lib.hid (show ∀ W, Rr W b s t x v → ML W → Calls Tryz.prog 72 #[.pointer (some ⟨b, 0, none⟩), .string ⟨#[62]⟩, .int .i64 0] W fun e w' => e = .returned (.tuple #[]) ∧ Rr w' b s u x v ∧ W.grownBy w' (some b) from fun W h1 h2 => to_yes [62] (by simp) (by simp) 0 (by omega) b s t x u v W h1 (by omega) h2 hO)
    clear hO
    go_enter Tryz.func62, Tryz.ntmps62
    go_wp2_with (first | (go_at_call 67; (with_reducible refine (BG.out _ _ hRq).mono ?_); rintro e wq ⟨rfl, hqq⟩; replace hRq := hRq.of_bl hqq.bl; replace hQ := hQ.trans hqq.bl; have hRTq : RT _ b s t x l := ⟨v, hRq, hT.of_bl hQ⟩) | (go_at_call 70; (with_reducible refine (L1.out _ hRq).mono ?_); rintro e wq ⟨rfl, hqq⟩; replace hRq := hRq.of_bl hqq.bl; replace hQ := hQ.trans hqq.bl; have hRTq : RT _ b s t x l := ⟨v, hRq, hT.of_bl hQ⟩) | (go_at_call 70; (with_reducible refine (L2.out _ hRq).mono ?_); rintro e wq ⟨rfl, hqq⟩; replace hRq := hRq.of_bl hqq.bl; replace hQ := hQ.trans hqq.bl; have hRTq : RT _ b s t x l := ⟨v, hRq, hT.of_bl hQ⟩) | (go_at_call 72; (with_reducible refine (TC.out _ hRq (hM.of_bl hQ)).mono ?_); rintro e wz ⟨rfl, hRz, hgz⟩))
    go_end0
    have hgw := gb_trans (gb_bl (b := some b) hQ) hgz
    exact ⟨below_gb hgw (Nat.le_refl _) (Nat.le_of_lt hbw), FrT.of_gb hgw, rfl, v, hRz, hT.of_gb hgw (Nat.lt_succ_self _)⟩

end Go.Proofs.YtjclpmpphkmpdaaGreatDoor

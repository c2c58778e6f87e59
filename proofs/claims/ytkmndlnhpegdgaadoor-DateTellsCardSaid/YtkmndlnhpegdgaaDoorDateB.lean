/- Bytes in memory; slices.Index and slices.Contains on them; the reader's word; sign. -/
import Derived.Test.YtkmndlnhpegdgaaDoorDateA
import Derived.Laws.IdiomStrings
namespace Go.Proofs.YtkmndlnhpegdgaaDoor
open Go.RowKit

/-- Block b holds the bytes l at its head. -/
def BA (w : World) (b : Nat) (l : List UInt8) : Prop := ∀ i, (h : i < l.length) → w.cell? ⟨b, i, none⟩ = some (.int .u8 (l[i]'h).toNat)
/-- What '[]byte(s)' lays. -/
def brow (l : List UInt8) (cap : Nat) (t : TypeId) : Obj := .cells (bytesRow ⟨l.toArray⟩ cap) t ((bytesRow ⟨l.toArray⟩ cap).size, (bytesRow ⟨l.toArray⟩ cap).size + 1)
theorem BA_brow (w : World) (l : List UInt8) (cap : Nat) (t : TypeId) : BA (w.alloc (brow l cap t)) w.heap.size l := by
  intro i h
  unfold brow
  rw [World.cell?_alloc_mark, bytesRow]
  rw [Array.getElem?_append_left (by simpa using h)]
  simp [h]
theorem BA_brow' (w : World) (l : List UInt8) (cap : Nat) (t : TypeId) : BA (w.alloc (brow l cap t)).drew w.heap.size l := fun i h => BA_brow w l cap t i h
theorem bytes_of (w : World) (l : List UInt8) : (convert 9 31 (.string ⟨l.toArray⟩)).run Tryd.prog w =
    .ok (.slice (some ⟨w.heap.size, 0, none⟩) l.length (grownCap w l.length 0 5)) (w.drew.alloc (brow l (grownCap w l.length 0 5) 5)) :=
  run_bytes_of_string w 9 31 5 ⟨l.toArray⟩ Tryd.underlying9 Tryd.underlying31 Tryd.underlying5

/-- The place of a byte; -1. -/
def Ix (l : List UInt8) (v : Int) : Int := match l.findIdx? (fun c => v == (c.toNat : Int)) with | some i => i | none => -1
theorem Ix_hit (l : List UInt8) (v : Int) (k : Nat) (h : k < l.length) (hk : (v == (l[k].toNat : Int)) = true) (hb : ∀ j, (hj : j < k) → (v == (l[j].toNat : Int)) = false) : Ix l v = k := by
  unfold Ix
  rw [List.findIdx?_eq_some_iff_getElem.2 ⟨h, hk, fun j hj => by simpa using hb j hj⟩]
theorem Ix_miss (l : List UInt8) (v : Int) (hb : ∀ j, (hj : j < l.length) → (v == (l[j].toNat : Int)) = false) : Ix l v = -1 := by
  unfold Ix
  rw [List.findIdx?_eq_none_iff.2 (fun x hx => by obtain ⟨j, hj, rfl⟩ := List.mem_iff_getElem.1 hx; exact hb j hj)]

theorem index_c (l : List UInt8) (v : Int) (b cap : Nat) (hl : l.length ≤ 1000000000) (w : World) (hA : BA w b l) :
    Calls Tryd.prog 40 #[.slice (some ⟨b, 0, none⟩) l.length cap, .int .u8 v] w fun e w' => e = .returned (.int .i64 (Ix l v)) ∧ w = w' := by
  go_enter Tryd.func40, Tryd.ntmps40
  go_wp2
  go_loop [8] (fun i => ∃ k : Nat, k ≤ l.length ∧ i = .int .i64 k ∧ ∀ j, (hj : j < l.length) → j < k → (v == (l[j].toNat : Int)) = false) (fun i => l.length - (intOf i).toNat)
  case atStart => exact ⟨0, by omega, rfl, fun j _ h => by omega⟩
  case round =>
    obtain ⟨k, hk, rfl, hb⟩ := hrel
    have HB := Lib.hid hb
    clear hb
    by_cases hlt : k < l.length
    · have hc := hA k hlt
      go_wp2
      · go_ret
        exact ⟨ret_int (Ix_hit l v k hlt ‹_› (fun j hj => HB.out j (by omega) hj)).symm, rfl⟩
      · go_round
        case rel => exact ⟨k + 1, by omega, by go_num, fun j hj hjk => by by_cases e : j = k; (subst e; assumption); exact HB.out j hj (by omega)⟩
        case measure => simp [intOf]; omega
    · go_wp2
      go_ret
      exact ⟨ret_int (Ix_miss l v (fun j hj => HB.out j hj (by omega))).symm, rfl⟩

def Has (l : List UInt8) (v : Int) : Bool := l.any fun c => v == (c.toNat : Int)
theorem Ix_has (l : List UInt8) (v : Int) : decide (0 ≤ Ix l v) = Has l v := by
  unfold Ix Has
  cases h : l.findIdx? (fun c => v == (c.toNat : Int)) with
  | some i =>
    have := List.findIdx?_eq_some_iff_getElem.1 h
    obtain ⟨h1, h2, _⟩ := this
    have h3 : (l.any fun c => v == (c.toNat : Int)) = true := List.any_eq_true.2 ⟨l[i], List.getElem_mem _, h2⟩
    rw [h3]; simp
  | none =>
    have h3 : (l.any fun c => v == (c.toNat : Int)) = false := by
      rw [List.any_eq_false]; intro x hx; simpa using List.findIdx?_eq_none_iff.1 h x hx
    rw [h3]; simp

theorem contains_c (l : List UInt8) (v : Int) (b cap : Nat) (hl : l.length ≤ 1000000000) (w : World) (hA : BA w b l) :
    Calls Tryd.prog 32 #[.slice (some ⟨b, 0, none⟩) l.length cap, .int .u8 v] w fun e w' => e = .returned (.bool (Has l v)) ∧ w = w' := by
  have h := Lib.hid (Ix_has l v)
  have hI := index_c l v b cap hl w hA
  have HI := Lib.hid hI
  clear hI
  go_enter Tryd.func32, Tryd.ntmps32
  go_wp2_with (go_at_call 40; refine HI.out.mono ?_; rintro e w' ⟨rfl, rfl⟩)
  go_ret
  exact ⟨ret_bool h.out, rfl⟩

/-- A reader lies in block b: its text, and whether it is short. -/
def Rd (w : World) (b : Nat) (s : List UInt8) (sh : Bool) : Prop := w.heap[b]? = some (.cells #[.string ⟨s.toArray⟩, .bool sh] 37 (0, 0))
/-- Nothing that was there is turned but block b. -/
structure Mo (b : Nat) (w w' : World) : Prop where
  os : w'.os = w.os
  tape : w'.tape = w.tape
  output : w'.output = w.output
  size : w.heap.size ≤ w'.heap.size
  block : ∀ k, k < w.heap.size → k ≠ b → w'.heap[k]? = w.heap[k]?
theorem Mo.refl (b : Nat) (w : World) : Mo b w w := ⟨rfl, rfl, rfl, Nat.le_refl _, fun _ _ _ => rfl⟩
theorem Mo.trans {b : Nat} {x y z : World} (h : Mo b x y) (k : Mo b y z) : Mo b x z :=
  ⟨k.os.trans h.os, k.tape.trans h.tape, k.output.trans h.output, Nat.le_trans h.size k.size, fun i hi hb => (k.block i (Nat.lt_of_lt_of_le hi h.size) hb).trans (h.block i hi hb)⟩
theorem Mo.of_bl {b : Nat} {w w' : World} (h : Bl w w') : Mo b w w' := ⟨Below.os h, Below.tape h, Below.output h, Below.size h, fun k hk _ => Below.block h k hk⟩
theorem Mo.set {b : Nat} {x w : World} (h : Mo b x w) (o : Nat) (v : Value) : Mo b x (w.setCell ⟨b, o, none⟩ v) :=
  h.trans ⟨rfl, rfl, rfl, by simp [World.setCell], fun k _ hb => Below.heap_setCell _ _ _ _ hb⟩
theorem Rd.of_bl {w w' : World} {b : Nat} {s : List UInt8} {sh : Bool} (h : Rd w b s sh) (hb : Bl w w') : Rd w' b s sh := by
  have hlt : b < w.heap.size := (Array.getElem?_eq_some_iff.1 h).1
  exact (Below.block hb b hlt).trans h
theorem Rd.lt {w : World} {b : Nat} {s : List UInt8} {sh : Bool} (h : Rd w b s sh) : b < w.heap.size := (Array.getElem?_eq_some_iff.1 h).1
theorem Rd.cells {w : World} {b : Nat} {s : List UInt8} {sh : Bool} (h : Rd w b s sh) :
    w.cell? ⟨b, 0, none⟩ = some (.string ⟨s.toArray⟩) ∧ w.cell? ⟨b, 1, none⟩ = some (.bool sh) ∧ w.frozen? ⟨b, 0, none⟩ = false ∧ w.frozen? ⟨b, 1, none⟩ = false := by
  unfold Rd at h
  simp [World.cell?, World.frozen?, h]
theorem Rd.set0 {w : World} {b : Nat} {s : List UInt8} {sh : Bool} (h : Rd w b s sh) (t : List UInt8) : Rd (w.setCell ⟨b, 0, none⟩ (.string ⟨t.toArray⟩)) b t sh := by
  unfold Rd at *
  simp [World.setCell, Array.getElem?_modify, h]
theorem Rd.set1 {w : World} {b : Nat} {s : List UInt8} {sh : Bool} (h : Rd w b s sh) (t : Bool) : Rd (w.setCell ⟨b, 1, none⟩ (.bool t)) b s t := by
  unfold Rd at *
  simp [World.setCell, Array.getElem?_modify, h]

/-- sign: what comes back, what is left, whether it was short. -/
def sgV (s of : List UInt8) : Int := match s with | [] => 0 | c :: _ => if Has of c.toNat then c.toNat else 0
def sgS (s of : List UInt8) : List UInt8 := match s with | [] => [] | c :: t => if Has of c.toNat then t else []
def sgB (s of : List UInt8) : Bool := match s with | [] => true | c :: _ => !Has of c.toNat

theorem sign_c (b : Nat) (s of : List UInt8) (sh : Bool) (w : World) (hR : Rd w b s sh) (hs : s.length ≤ 9223372036854775807) (ho : of.length ≤ 1000000000) :
    Calls Tryd.prog 15 #[.pointer (some ⟨b, 0, none⟩), .string ⟨of.toArray⟩] w fun e w' =>
      e = .returned (.int .u8 (sgV s of)) ∧ Rd w' b (sgS s of) (sh || sgB s of) ∧ Mo b w w' := by
  have kb := bytes_of
  have hlt := hR.lt
  obtain ⟨c0, c1, f0, f1⟩ := hR.cells
  cases s with
  | nil =>
    go_enter Tryd.func15, Tryd.ntmps15
    go_wp2_with fail
    go_ret
    exact ⟨rfl, by simpa [sgS, sgB] using (hR.set0 []).set1 true, ((Mo.refl b w).set _ _).set _ _⟩
  | cons c t =>
    cases hh : Has of c.toNat
    · go_enter Tryd.func15, Tryd.ntmps15
      go_wp2_with (go_at_call 32; refine (contains_c _ _ _ _ (by assumption) _ (BA_brow' _ _ _ _)).mono ?_; rintro e w' ⟨rfl, rfl⟩)
      go_ret
      refine ⟨by simp [sgV, hh], ?_, ?_⟩
      · simpa [sgS, sgB, hh] using ((hR.set0 []).set1 true).of_bl (((Bl.refl _).alloc _).drew)
      · exact (((Mo.refl b w).set _ _).set _ _).trans (Mo.of_bl (((Bl.refl _).alloc _).drew))
    · go_enter Tryd.func15, Tryd.ntmps15
      go_wp2_with (go_at_call 32; refine (contains_c _ _ _ _ (by assumption) _ (BA_brow' _ _ _ _)).mono ?_; rintro e w' ⟨rfl, rfl⟩)
      go_ret
      refine ⟨by simp [sgV, hh], ?_, ?_⟩
      · simpa [sgS, sgB, hh] using (hR.set0 t).of_bl (((Bl.refl _).alloc _).drew)
      · exact ((Mo.refl b w).set _ _).trans (Mo.of_bl (((Bl.refl _).alloc _).drew))

/-- digits: the number, what is left, whether it was short. -/
def dec : List UInt8 := [48, 49, 50, 51, 52, 53, 54, 55, 56, 57]
def dd (v : Int) : Int := if 48 < v then v - 48 else 0
def dgN : Nat → Int → List UInt8 → Int
  | 0, n, _ => n
  | k + 1, n, s => dgN k (10 * n + dd (sgV s dec)) (sgS s dec)
def dgS : Nat → List UInt8 → List UInt8
  | 0, s => s
  | k + 1, s => dgS k (sgS s dec)
def dgB : Nat → List UInt8 → Bool
  | 0, _ => false
  | k + 1, s => sgB s dec || dgB k (sgS s dec)
theorem sgV_bd (s of : List UInt8) : 0 ≤ sgV s of ∧ sgV s of ≤ 255 := by
  unfold sgV
  cases s with
  | nil => simp
  | cons c t => have := u8_lt c; simp only []; split <;> omega
theorem sgS_len (s of : List UInt8) : (sgS s of).length ≤ s.length := by
  unfold sgS
  cases s with
  | nil => simp
  | cons c t => simp only []; split <;> simp
theorem dgN_bd (k : Nat) (n : Int) (s : List UInt8) (h : 0 ≤ n) : 0 ≤ dgN k n s := by
  induction k generalizing n s with
  | zero => exact h
  | succ k ih => exact ih _ _ (by unfold dd; split <;> omega)

theorem sgV_dec (s : List UInt8) : sgV s dec = 0 ∨ (48 ≤ sgV s dec ∧ sgV s dec ≤ 57) := by
  unfold sgV
  cases s with
  | nil => simp
  | cons c t =>
    simp only []
    split
    · rename_i h
      right
      simp only [Has, dec, List.any_cons, List.any_nil, Bool.or_false, Bool.or_eq_true, beq_iff_eq] at h
      rcases h with h | h | h | h | h | h | h | h | h | h <;> rw [h] <;> decide
    · left; rfl
theorem p10 (j : Nat) (h : j ≤ 4) : 1 ≤ (10 : Int) ^ j ∧ (10 : Int) ^ j ≤ 10000 := by
  have : j = 0 ∨ j = 1 ∨ j = 2 ∨ j = 3 ∨ j = 4 := by omega
  rcases this with rfl | rfl | rfl | rfl | rfl <;> decide
theorem dg_step (k j : Nat) (n : Int) (s : List UInt8) (h : j < k) : dgN (k - j) n s = dgN (k - (j + 1)) (10 * n + dd (sgV s dec)) (sgS s dec) ∧ dgS (k - j) s = dgS (k - (j + 1)) (sgS s dec) ∧ dgB (k - j) s = (sgB s dec || dgB (k - (j + 1)) (sgS s dec)) := by
  rw [show k - j = (k - (j + 1)) + 1 by omega]
  exact ⟨rfl, rfl, rfl⟩

set_option maxHeartbeats 400000 in
theorem digits_c (b k : Nat) (s : List UInt8) (sh : Bool) (most : Int) (hk : k ≤ 4) (hs : s.length ≤ 9223372036854775807) (w : World) (hR : Rd w b s sh) :
    Calls Tryd.prog 14 #[.pointer (some ⟨b, 0, none⟩), .int .i64 k, .int .i64 most] w fun e w' =>
      e = .returned (.int .i64 (dgN k 0 s)) ∧ Rd w' b (dgS k s) (sh || dgB k s || decide (most < dgN k 0 s)) ∧ Mo b w w' := by
  have hlt := hR.lt
  go_enter Tryd.func14, Tryd.ntmps14
  go_wp2_with fail
  go_loopw [7, 9] (fun t i wr => ∃ j : Nat, ∃ n : Int, ∃ s' : List UInt8, ∃ sh' : Bool, j ≤ k ∧ 0 ≤ n ∧ n < 10 ^ j ∧ i = .int .i64 j ∧ t = .int .i64 n ∧ Rd wr b s' sh' ∧ Mo b w wr ∧ s'.length ≤ 9223372036854775807 ∧
      dgN (k - j) n s' = dgN k 0 s ∧ dgS (k - j) s' = dgS k s ∧ (sh' || dgB (k - j) s') = (sh || dgB k s)) (fun _ i _ => k - (intOf i).toNat)
  case atStart => exact ⟨0, 0, s, sh, by omega, by omega, by omega, rfl, rfl, hR, Mo.refl _ _, hs, rfl, rfl, rfl⟩
  case round =>
    obtain ⟨j, n, s', sh', hj, hn0, hn1, rfl, rfl, hR', hM, hs', h1, h2, h3⟩ := hrel
    have H1 := Lib.hid h1
    have H2 := Lib.hid h2
    have H3 := Lib.hid h3
    clear h1 h2 h3
    by_cases hlt2 : j < k
    · have g1 := sgV_dec s'
      have g2 := sgS_len s' dec
      have g3 := p10 j (by omega)
      obtain ⟨d1, d2, d3⟩ := dg_step k j n s' hlt2
      have g4 := Lib.hid (Int.pow_succ (10 : Int) j)
      have D1 := Lib.hid d1
      have D2 := Lib.hid d2
      have D3 := Lib.hid d3
      have m0 := Lib.hid (show 0 ≤ dd (sgV s' dec) ∧ dd (sgV s' dec) ≤ 9 by unfold dd; split <;> omega)
      obtain ⟨m2, m3⟩ : 0 ≤ sgV s' dec ∧ sgV s' dec ≤ 255 := by omega
      clear d1 d2 d3 g1
      go_wp2_with (go_at_call 15; refine (sign_c b s' dec sh' _ (by assumption) (by assumption) (by decide)).mono ?_; rintro e w' ⟨rfl, hr, hm⟩)
      go_roundw
      case rel =>
        have q0 := m0.out
        have q1 := g4.out
        exact ⟨j + 1, 10 * n + dd (sgV s' dec), sgS s' dec, _, by omega, by omega, by rw [q1]; omega, by go_num, rfl, hr, hM.trans hm, by omega, by rw [← H1.out, D1.out], by rw [← H2.out, D2.out], by rw [← H3.out, D3.out, Bool.or_assoc]⟩
      case measure => simp [intOf]; omega
    · obtain rfl : j = k := by omega
      obtain ⟨c0, c1, f0, f1⟩ := hR'.cells
      have hlt3 := hR'.lt
      by_cases hmost : most < n
      all_goals cases sh'
      all_goals
        go_wp2
        go_ret
        have q1 := H1.out
        have q2 := H2.out
        have q3 := H3.out
        rw [Nat.sub_self] at q1 q2 q3
        simp only [dgN, dgS, dgB, Bool.or_false] at q1 q2 q3
        subst q1 q2
        rw [← q3]
        refine ⟨rfl, ?_, hM.set _ _⟩
        first
          | (simpa [hmost] using hR'.set1 _)
          | (simpa [Int.not_lt.2 hmost] using hR'.set1 _)

/-- clock. -/
def ckV (s : List UInt8) : Int := 3600 * dgN 2 0 s + 60 * dgN 2 0 (sgS (dgS 2 s) [58]) + dgN 2 0 (sgS (dgS 2 (sgS (dgS 2 s) [58])) [58])
def ckS (s : List UInt8) : List UInt8 := dgS 2 (sgS (dgS 2 (sgS (dgS 2 s) [58])) [58])
def ckB (s : List UInt8) : Bool :=
  dgB 2 s || decide (23 < dgN 2 0 s) || sgB (dgS 2 s) [58] || dgB 2 (sgS (dgS 2 s) [58]) || decide (59 < dgN 2 0 (sgS (dgS 2 s) [58])) || sgB (dgS 2 (sgS (dgS 2 s) [58])) [58] ||
    dgB 2 (sgS (dgS 2 (sgS (dgS 2 s) [58])) [58]) || decide (59 < dgN 2 0 (sgS (dgS 2 (sgS (dgS 2 s) [58])) [58]))
theorem dgS_len (k : Nat) (s : List UInt8) : (dgS k s).length ≤ s.length := by
  induction k generalizing s with
  | zero => exact Nat.le_refl _
  | succ k ih => exact Nat.le_trans (ih _) (sgS_len _ _)
theorem dd_bd (s : List UInt8) : 0 ≤ dd (sgV s dec) ∧ dd (sgV s dec) ≤ 9 := by
  have := sgV_dec s
  unfold dd; split <;> omega
theorem dg2_bd (s : List UInt8) : 0 ≤ dgN 2 0 s ∧ dgN 2 0 s ≤ 99 := by
  have h1 := dd_bd s
  have h2 := dd_bd (sgS s dec)
  simp only [dgN]; omega
theorem dg4_bd (s : List UInt8) : 0 ≤ dgN 4 0 s ∧ dgN 4 0 s ≤ 9999 := by
  have h1 := dd_bd s
  have h2 := dd_bd (sgS s dec)
  have h3 := dd_bd (sgS (sgS s dec) dec)
  have h4 := dd_bd (sgS (sgS (sgS s dec) dec) dec)
  simp only [dgN]; omega
theorem dig2_c (b : Nat) (s : List UInt8) (sh : Bool) (most : Int) (w : World) (hR : Rd w b s sh) (hs : s.length ≤ 9223372036854775807) :
    Calls Tryd.prog 14 #[.pointer (some ⟨b, 0, none⟩), .int .i64 2, .int .i64 most] w fun e w' =>
      e = .returned (.int .i64 (dgN 2 0 s)) ∧ Rd w' b (dgS 2 s) (sh || dgB 2 s || decide (most < dgN 2 0 s)) ∧ Mo b w w' := digits_c b 2 s sh most (by omega) hs w hR
theorem dig4_c (b : Nat) (s : List UInt8) (sh : Bool) (most : Int) (w : World) (hR : Rd w b s sh) (hs : s.length ≤ 9223372036854775807) :
    Calls Tryd.prog 14 #[.pointer (some ⟨b, 0, none⟩), .int .i64 4, .int .i64 most] w fun e w' =>
      e = .returned (.int .i64 (dgN 4 0 s)) ∧ Rd w' b (dgS 4 s) (sh || dgB 4 s || decide (most < dgN 4 0 s)) ∧ Mo b w w' := digits_c b 4 s sh most (by omega) hs w hR
theorem dig1_c (b : Nat) (s : List UInt8) (sh : Bool) (most : Int) (w : World) (hR : Rd w b s sh) (hs : s.length ≤ 9223372036854775807) :
    Calls Tryd.prog 14 #[.pointer (some ⟨b, 0, none⟩), .int .i64 1, .int .i64 most] w fun e w' =>
      e = .returned (.int .i64 (dgN 1 0 s)) ∧ Rd w' b (dgS 1 s) (sh || dgB 1 s || decide (most < dgN 1 0 s)) ∧ Mo b w w' := digits_c b 1 s sh most (by omega) hs w hR

theorem clock_c (b : Nat) (s : List UInt8) (sh : Bool) (w : World) (hR : Rd w b s sh) (hs : s.length ≤ 9223372036854775807) :
    Calls Tryd.prog 16 #[.pointer (some ⟨b, 0, none⟩)] w fun e w' =>
      e = .returned (.int .i64 (ckV s)) ∧ Rd w' b (ckS s) (sh || ckB s) ∧ Mo b w w' := by
  have l1 := dgS_len 2 s
  have l2 := sgS_len (dgS 2 s) [58]
  have l3 := dgS_len 2 (sgS (dgS 2 s) [58])
  have l4 := sgS_len (dgS 2 (sgS (dgS 2 s) [58])) [58]
  have b1 := dg2_bd s
  have b2 := dg2_bd (sgS (dgS 2 s) [58])
  have b3 := dg2_bd (sgS (dgS 2 (sgS (dgS 2 s) [58])) [58])
  go_enter Tryd.func16, Tryd.ntmps16
  go_wp2_with (first | (go_at_call 15; refine (sign_c b _ _ _ _ (by assumption) (by omega) (by decide)).mono ?_; rintro e w' ⟨rfl, hr, hm⟩) | (go_at_call 14; (with_reducible refine (dig2_c b _ _ _ _ (by assumption) (by omega)).mono ?_); rintro e w' ⟨rfl, hr, hm⟩))
  go_ret
  refine ⟨rfl, ?_, ?_⟩
  · simpa [ckS, ckB, Bool.or_assoc] using hr
  · repeat (first | assumption | refine Mo.trans ?_ (by assumption))
end Go.Proofs.YtkmndlnhpegdgaaDoor

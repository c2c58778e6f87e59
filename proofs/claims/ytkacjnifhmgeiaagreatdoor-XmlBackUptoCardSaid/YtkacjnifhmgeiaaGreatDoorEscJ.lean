/- Signs that are taken: the reference. -/
import Derived.Test.YtkacjnifhmgeiaaGreatDoorEscI
namespace Go.Proofs.YtkacjnifhmgeiaaGreatDoor
open Go.RowKit

theorem startsAt_c (s p : List UInt8) (at' : Nat) (hs : s.length ≤ 4611686018427387904) (hp : p.length ≤ 1000) (h : at' ≤ s.length) (w : World) :
    Calls Tryz.prog 47 #[.string ⟨s.toArray⟩, .int .i64 (at' : Int), .string ⟨p.toArray⟩] w fun e w' => e = .returned (.bool (pre p (s.drop at'))) ∧ w = w' := by
  have hq := pre_iff p (s.drop at')
  simp only [List.length_drop] at hq
  have HQ := Lib.hid hq
  clear hq
  have h0 : (0 : Int) ≤ (at' : Int) := by omega
  have h0' : decide ((0 : Int) ≤ (at' : Int)) = true := by simp
  by_cases hl : p.length ≤ s.length - at'
  · have hl1 : (p.length : Int) ≤ (s.length : Int) - (at' : Int) := by omega
    have hl2 : (at' : Int) + (p.length : Int) ≤ (s.length : Int) := by omega
    have hl3 : at' + p.length ≤ s.length := by omega
    have hl4 : (at' : Int) ≤ (at' : Int) + (p.length : Int) := by omega
    have HL := Lib.hid hl
    clear hl
    go_enter Tryz.func47, Tryz.ntmps47
    go_wp2
    go_ret
    exact ⟨ret_bool (by rw [HQ.out, decide_eq_true HL.out]; simp), rfl⟩
  · have hl1 : ¬ (p.length : Int) ≤ (s.length : Int) - (at' : Int) := by omega
    have HL := Lib.hid hl
    clear hl
    go_enter Tryz.func47, Tryz.ntmps47
    go_wp2
    go_ret
    exact ⟨ret_bool (by rw [HQ.out, decide_eq_false HL.out]; rfl), rfl⟩

/-- A row of cells of bytes reads as a string. -/
theorem conv_row (W : World) (g : Nat) (l : List UInt8) (h : BA W g l) (n : Nat) (hn : n = l.length) : (convert 76 9 (.slice (some ⟨g, 0, none⟩) n n)).run Tryz.prog W = .ok (.string ⟨l.toArray⟩) W := by
  subst hn
  have h1 := run_convert_bytes_arg (P := Tryz.prog) W 76 5 Tryz.underlying76 Tryz.underlying5 g 0 l.length l.length (l.map fun c => (c.toNat : Int)) (by simp) (fun i hi => by
    rw [Nat.zero_add, h i hi]
    simp [List.getD, hi]) 9 Tryz.underlying9
  have e : (l.map fun c => (c.toNat : Int)).map (fun n => UInt8.ofNat n.toNat) = l := by
    rw [List.map_map]
    exact (List.map_congr_left (fun c _ => by simp)).trans (List.map_id l)
  rw [h1, strOfNums, e]
theorem cv1 (W : World) (b : Nat) (x : Int) (hx : W.cell? ⟨b, 0, none⟩ = some (.int .u8 x)) : (convert 76 9 (.slice (some ⟨b, 0, none⟩) 1 1)).run Tryz.prog W = .ok (.string ⟨[UInt8.ofNat x.toNat].toArray⟩) W :=
  run_convert_bytes_arg (P := Tryz.prog) W 76 5 Tryz.underlying76 Tryz.underlying5 b 0 1 1 [x] rfl (fun i hi => by
    obtain rfl : i = 0 := by omega
    exact hx) 9 Tryz.underlying9
theorem cv2 (W : World) (b : Nat) (x y : Int) (hx : W.cell? ⟨b, 0, none⟩ = some (.int .u8 x)) (hy : W.cell? ⟨b, 1, none⟩ = some (.int .u8 y)) : (convert 76 9 (.slice (some ⟨b, 0, none⟩) 2 2)).run Tryz.prog W = .ok (.string ⟨[UInt8.ofNat x.toNat, UInt8.ofNat y.toNat].toArray⟩) W :=
  run_convert_bytes_arg (P := Tryz.prog) W 76 5 Tryz.underlying76 Tryz.underlying5 b 0 2 2 [x, y] rfl (fun i hi => by
    have : i = 0 ∨ i = 1 := by omega
    rcases this with rfl | rfl
    · exact hx
    · exact hy) 9 Tryz.underlying9
theorem cv3 (W : World) (b : Nat) (x y z : Int) (hx : W.cell? ⟨b, 0, none⟩ = some (.int .u8 x)) (hy : W.cell? ⟨b, 1, none⟩ = some (.int .u8 y)) (hz : W.cell? ⟨b, 2, none⟩ = some (.int .u8 z)) : (convert 76 9 (.slice (some ⟨b, 0, none⟩) 3 3)).run Tryz.prog W = .ok (.string ⟨[UInt8.ofNat x.toNat, UInt8.ofNat y.toNat, UInt8.ofNat z.toNat].toArray⟩) W :=
  run_convert_bytes_arg (P := Tryz.prog) W 76 5 Tryz.underlying76 Tryz.underlying5 b 0 3 3 [x, y, z] rfl (fun i hi => by
    have : i = 0 ∨ i = 1 ∨ i = 2 := by omega
    rcases this with rfl | rfl | rfl
    · exact hx
    · exact hy
    · exact hz) 9 Tryz.underlying9
theorem cv4 (W : World) (b : Nat) (x y z u : Int) (hx : W.cell? ⟨b, 0, none⟩ = some (.int .u8 x)) (hy : W.cell? ⟨b, 1, none⟩ = some (.int .u8 y)) (hz : W.cell? ⟨b, 2, none⟩ = some (.int .u8 z)) (hu : W.cell? ⟨b, 3, none⟩ = some (.int .u8 u)) : (convert 76 9 (.slice (some ⟨b, 0, none⟩) 4 4)).run Tryz.prog W = .ok (.string ⟨[UInt8.ofNat x.toNat, UInt8.ofNat y.toNat, UInt8.ofNat z.toNat, UInt8.ofNat u.toNat].toArray⟩) W :=
  run_convert_bytes_arg (P := Tryz.prog) W 76 5 Tryz.underlying76 Tryz.underlying5 b 0 4 4 [x, y, z, u] rfl (fun i hi => by
    have : i = 0 ∨ i = 1 ∨ i = 2 ∨ i = 3 := by omega
    rcases this with rfl | rfl | rfl | rfl
    · exact hx
    · exact hy
    · exact hz
    · exact hu) 9 Tryz.underlying9
theorem rowL_1 (n : Int) (h0 : 0 < n) (h1 : n < 128) : rowL n = [UInt8.ofNat n.toNat] := by
  have hv : Utf8.valid n = true := by simp [Utf8.valid]; omega
  unfold rowL Utf8.encode
  rw [hv]
  simp only [if_true]
  rw [if_pos (by omega)]
theorem rowL_2 (n : Int) (h0 : 128 ≤ n) (h1 : n < 2048) : rowL n = [UInt8.ofNat (192 + n / 64).toNat, UInt8.ofNat (128 + n % 64).toNat] := by
  have hv : Utf8.valid n = true := by simp [Utf8.valid]; omega
  unfold rowL Utf8.encode
  rw [hv]
  simp only [if_true]
  rw [if_neg (by omega), if_pos (by omega), show (192 + n / 64).toNat = 192 + n.toNat / 64 by omega, show (128 + n % 64).toNat = 128 + n.toNat % 64 by omega]
theorem rowL_3 (n : Int) (h0 : 2048 ≤ n) (h1 : n < 65536) (h2 : n < 55296 ∨ 57343 < n) : rowL n = [UInt8.ofNat (224 + n / 4096).toNat, UInt8.ofNat (128 + n / 64 % 64).toNat, UInt8.ofNat (128 + n % 64).toNat] := by
  have hv : Utf8.valid n = true := by simp [Utf8.valid]; omega
  unfold rowL Utf8.encode
  rw [hv]
  simp only [if_true]
  rw [if_neg (by omega), if_neg (by omega), if_pos (by omega), show (224 + n / 4096).toNat = 224 + n.toNat / 4096 by omega, show (128 + n / 64 % 64).toNat = 128 + n.toNat / 64 % 64 by omega, show (128 + n % 64).toNat = 128 + n.toNat % 64 by omega]
theorem rowL_4 (n : Int) (h0 : 65536 ≤ n) (h1 : n ≤ 1114111) : rowL n = [UInt8.ofNat (240 + n / 262144).toNat, UInt8.ofNat (128 + n / 4096 % 64).toNat, UInt8.ofNat (128 + n / 64 % 64).toNat, UInt8.ofNat (128 + n % 64).toNat] := by
  have hv : Utf8.valid n = true := by simp [Utf8.valid]; omega
  unfold rowL Utf8.encode
  rw [hv]
  simp only [if_true]
  rw [if_neg (by omega), if_neg (by omega), if_neg (by omega), show (240 + n / 262144).toNat = 240 + n.toNat / 262144 by omega, show (128 + n / 4096 % 64).toNat = 128 + n.toNat / 4096 % 64 by omega, show (128 + n / 64 % 64).toNat = 128 + n.toNat / 64 % 64 by omega, show (128 + n % 64).toNat = 128 + n.toNat % 64 by omega]
set_option maxHeartbeats 2000000 in
/-- The row of a code point. -/
theorem row_c (n : Int) (h0 : 0 < n) (h1 : n ≤ 1114111) (h2 : n < 55296 ∨ 57343 < n) (w : World) :
    Calls Tryz.prog 99 #[.int .i64 n] w fun e w' => e = .returned (.string ⟨(rowL n).toArray⟩) ∧ Bl w w' := by
  have c1 := cv1
  have c2 := cv2
  have c3 := cv3
  have c4 := cv4
  by_cases a1 : n < 128
  · have HR := Lib.hid (rowL_1 n h0 a1)
    go_enter Tryz.func99, Tryz.ntmps99
    go_wp2
    go_ret
    exact ⟨by rw [HR.out]; rfl, by repeat (first | exact Bl.refl _ | refine Bl.alloc ?_ _)⟩
  by_cases a2 : n < 2048
  · have HR := Lib.hid (rowL_2 n (by omega) a2)
    go_enter Tryz.func99, Tryz.ntmps99
    go_wp2
    go_ret
    exact ⟨by rw [HR.out]; rfl, by repeat (first | exact Bl.refl _ | refine Bl.alloc ?_ _)⟩
  by_cases a3 : n < 65536
  · have HR := Lib.hid (rowL_3 n (by omega) a3 h2)
    go_enter Tryz.func99, Tryz.ntmps99
    go_wp2
    go_ret
    exact ⟨by rw [HR.out]; rfl, by repeat (first | exact Bl.refl _ | refine Bl.alloc ?_ _)⟩
  · have HR := Lib.hid (rowL_4 n (by omega) h1)
    go_enter Tryz.func99, Tryz.ntmps99
    go_wp2
    go_ret
    exact ⟨by rw [HR.out]; rfl, by repeat (first | exact Bl.refl _ | refine Bl.alloc ?_ _)⟩
end Go.Proofs.YtkacjnifhmgeiaaGreatDoor
